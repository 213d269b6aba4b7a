/- The numbers of the packets that were sent from a node to a node: what the program and the reference return; for all lists of at most a million packets. -/
import Derived.Test.YtinnfahmfggghaaLawP
import Derived.Test.YtinnfahmfggghaaM4
set_option linter.unusedVariables false
set_option linter.unusedSimpArgs false
namespace Go.Proofs.Ytinnfahmfggghaa
open Go.RowKit Go.Proofs.YtinnfahmfggghaaW.PrintWords
open NoC

def sentOf (a b c : Int) (p : Packet) : Bool := p.src == a && p.dst == b && p.cls == c
def sentTo (l : List Packet) (a b c : Int) (k : Nat) : List Int := ((l.take k).filter (sentOf a b c)).map Packet.id
theorem sentTo_no {l : List Packet} {a b c : Int} (k : Nat) (hk : k < l.length) (h : sentOf a b c (rp l k) = false) : sentTo l a b c (k + 1) = sentTo l a b c k := by
  unfold sentTo
  rw [take_snoc l k hk, List.filter_append]
  simp [h]
theorem sentTo_yes {l : List Packet} {a b c : Int} (k : Nat) (hk : k < l.length) (h : sentOf a b c (rp l k) = true) : sentTo l a b c (k + 1) = sentTo l a b c k ++ [(rp l k).id] := by
  unfold sentTo
  rw [take_snoc l k hk, List.filter_append]
  simp [h]
theorem sentTo_len (l : List Packet) (a b c : Int) (k : Nat) : (sentTo l a b c k).length ≤ k := by
  unfold sentTo
  rw [List.length_map]
  exact Nat.le_trans (List.length_filter_le _ _) (by rw [List.length_take]; omega)

set_option maxHeartbeats 1000000 in
theorem impl_SentFrom (l : List Packet) (x y z : Int) (D : Option Addr) (n : Nat) (w : World) (hp : kP.C w D l.length l) (hkl : l.length ≤ 1048576) :
    Calls Try.prog 80 #[.slice D l.length n, .int .i64 x, .int .i64 y, .int .i64 z] w fun e w' => GotI w w' (sentTo l x y z l.length) e ∧ Below w.heap.size w w' := by
  go_enter Try.func80, Try.ntmps80
  go_wp2
  go_loopw [9, 15] (fun v i wr => ∃ j : Nat, i = .int .i64 j ∧ j ≤ l.length ∧ Kd.R (Kd.int .i64) 3 wr w.heap.size (fun _ => True) v (sentTo l x y z j) ∧ Below w.heap.size w wr) (fun _ i _ => l.length - (intOf i).toNat)
  case atStart => exact ⟨0, rfl, Nat.zero_le _, R_empty (W0 := w) _ _ (bw_size (by with_reducible repeat (first | assumption | exact bw_refl _ | apply bw_alloc | apply bw_drew | apply bw_drewN | refine bw_set _ ?_ (by omega) | refine bw_then ?_ (by assumption)))), (by with_reducible repeat (first | assumption | exact bw_refl _ | apply bw_alloc | apply bw_drew | apply bw_drewN | refine bw_set _ ?_ (by omega) | refine bw_then ?_ (by assumption)))⟩
  case round =>
    obtain ⟨j, rfl, hj, HO, HB⟩ := hrel
    obtain ⟨Ao, co, rfl⟩ := Kd.R_slice HO
    have hlen := sentTo_len l x y z j
    obtain ⟨hc0, hf0, hz0⟩ := bcell HB
    by_cases hlt : j < l.length
    · obtain ⟨b, off, rfl, hbl, p0, p1, p2, p3, p4⟩ := rdP_at hp j hlt
      by_cases e1 : (rp l j).src = x
      · by_cases e2 : (rp l j).dst = y
        · by_cases e3 : (rp l j).cls = z
          · have f1 : ((rp l j).src == x) = true := beq_iff_eq.2 e1
            have f2 : ((rp l j).dst == y) = true := beq_iff_eq.2 e2
            have f3 : ((rp l j).cls == z) = true := beq_iff_eq.2 e3
            have hs := sentTo_yes (a := x) (b := y) (c := z) j hlt (by simp [sentOf, e1, e2, e3])
            have HS := Lib.hid hs
            clear hs e1 e2 e3
            go_wp2_with (at_builtin; refine app_int (W0 := w) rfl (.tmp 35) (.tmp 38) 24 3 rfl Try.underlying24 info_int _ (sentTo l x y z j) _ rfl (by first | rfl | exact congrArg (fun z => Value.slice (some ⟨z, 0, none⟩) 1 1) (World.size_alloc _ _).symm) (by exact Kd.R_below HO (by with_reducible repeat (first | assumption | exact bw_refl _ | apply bw_alloc | apply bw_drew | apply bw_drewN | refine bw_set _ ?_ (by omega) | refine bw_then ?_ (by assumption)))) (by with_reducible repeat (first | assumption | exact bw_refl _ | apply bw_alloc | apply bw_drew | apply bw_drewN | refine bw_set _ ?_ (by omega) | refine bw_then ?_ (by assumption))) (by omega) ?_; intro v1 w1 HO1 HB1; obtain ⟨hc1, hf1, hz1⟩ := bcell HB1; (try simp only [World.size_alloc, World.size_setCell, World.size_drew, sz_drewN] at hz1); have hb2 := HB1; have hb9 := HB1)
            go_roundw
            case rel => exact ⟨j + 1, by go_num, by omega, by rw [HS.out]; exact (by exact Kd.R_below HO1 (by with_reducible repeat (first | assumption | exact bw_refl _ | apply bw_alloc | apply bw_drew | apply bw_drewN | refine bw_set _ ?_ (by omega) | refine bw_then ?_ (by assumption)))), (by with_reducible repeat (first | assumption | exact bw_refl _ | apply bw_alloc | apply bw_drew | apply bw_drewN | refine bw_set _ ?_ (by omega) | refine bw_then ?_ (by assumption)))⟩
            case measure => simp [intOf]; omega
          · have f1 : ((rp l j).src == x) = true := beq_iff_eq.2 e1
            have f2 : ((rp l j).dst == y) = true := beq_iff_eq.2 e2
            have f3 : ((rp l j).cls == z) = false := beq_eq_false_iff_ne.2 e3
            have hs := sentTo_no (a := x) (b := y) (c := z) j hlt (by simp [sentOf, e3])
            have HS := Lib.hid hs
            clear hs e1 e2 e3
            go_wp2
            go_roundw
            case rel => exact ⟨j + 1, by go_num, by omega, by rw [HS.out]; exact (by exact Kd.R_below HO (by with_reducible repeat (first | assumption | exact bw_refl _ | apply bw_alloc | apply bw_drew | apply bw_drewN | refine bw_set _ ?_ (by omega) | refine bw_then ?_ (by assumption)))), (by with_reducible repeat (first | assumption | exact bw_refl _ | apply bw_alloc | apply bw_drew | apply bw_drewN | refine bw_set _ ?_ (by omega) | refine bw_then ?_ (by assumption)))⟩
            case measure => simp [intOf]; omega
        · have f1 : ((rp l j).src == x) = true := beq_iff_eq.2 e1
          have f2 : ((rp l j).dst == y) = false := beq_eq_false_iff_ne.2 e2
          have hs := sentTo_no (a := x) (b := y) (c := z) j hlt (by simp [sentOf, e2])
          have HS := Lib.hid hs
          clear hs e1 e2
          go_wp2
          go_roundw
          case rel => exact ⟨j + 1, by go_num, by omega, by rw [HS.out]; exact (by exact Kd.R_below HO (by with_reducible repeat (first | assumption | exact bw_refl _ | apply bw_alloc | apply bw_drew | apply bw_drewN | refine bw_set _ ?_ (by omega) | refine bw_then ?_ (by assumption)))), (by with_reducible repeat (first | assumption | exact bw_refl _ | apply bw_alloc | apply bw_drew | apply bw_drewN | refine bw_set _ ?_ (by omega) | refine bw_then ?_ (by assumption)))⟩
          case measure => simp [intOf]; omega
      · have f1 : ((rp l j).src == x) = false := beq_eq_false_iff_ne.2 e1
        have hs := sentTo_no (a := x) (b := y) (c := z) j hlt (by simp [sentOf, e1])
        have HS := Lib.hid hs
        clear hs e1
        go_wp2
        go_roundw
        case rel => exact ⟨j + 1, by go_num, by omega, by rw [HS.out]; exact (by exact Kd.R_below HO (by with_reducible repeat (first | assumption | exact bw_refl _ | apply bw_alloc | apply bw_drew | apply bw_drewN | refine bw_set _ ?_ (by omega) | refine bw_then ?_ (by assumption)))), (by with_reducible repeat (first | assumption | exact bw_refl _ | apply bw_alloc | apply bw_drew | apply bw_drewN | refine bw_set _ ?_ (by omega) | refine bw_then ?_ (by assumption)))⟩
        case measure => simp [intOf]; omega
    · go_wp2
      go_ret
      have hje : j = l.length := by omega
      subst hje
      exact ⟨⟨_, rfl, HO⟩, (by with_reducible repeat (first | assumption | exact bw_refl _ | apply bw_alloc | apply bw_drew | apply bw_drewN | refine bw_set _ ?_ (by omega) | refine bw_then ?_ (by assumption)))⟩

set_option maxHeartbeats 1000000 in
theorem spec_SentFrom (l : List Packet) (x y z : Int) (D : Option Addr) (n : Nat) (w : World) (hp : kP.C w D l.length l) (hkl : l.length ≤ 1048576) :
    Calls Try.prog 75 #[.slice D l.length n, .int .i64 x, .int .i64 y, .int .i64 z] w fun e w' => GotI w w' (sentTo l x y z l.length) e ∧ Below w.heap.size w w' := by
  go_enter Try.func75, Try.ntmps75
  go_wp2
  go_loopw [9, 10] (fun v i wr => ∃ j : Nat, i = .int .i64 j ∧ j ≤ l.length ∧ Kd.R (Kd.int .i64) 3 wr w.heap.size (fun _ => True) v (sentTo l x y z j) ∧ Below w.heap.size w wr) (fun _ i _ => l.length - (intOf i).toNat)
  case atStart => exact ⟨0, rfl, Nat.zero_le _, R_empty (W0 := w) _ _ (bw_size (by with_reducible repeat (first | assumption | exact bw_refl _ | apply bw_alloc | apply bw_drew | apply bw_drewN | refine bw_set _ ?_ (by omega) | refine bw_then ?_ (by assumption)))), (by with_reducible repeat (first | assumption | exact bw_refl _ | apply bw_alloc | apply bw_drew | apply bw_drewN | refine bw_set _ ?_ (by omega) | refine bw_then ?_ (by assumption)))⟩
  case round =>
    obtain ⟨j, rfl, hj, HO, HB⟩ := hrel
    obtain ⟨Ao, co, rfl⟩ := Kd.R_slice HO
    have hlen := sentTo_len l x y z j
    obtain ⟨hc0, hf0, hz0⟩ := bcell HB
    by_cases hlt : j < l.length
    · obtain ⟨b, off, rfl, hbl, p0, p1, p2, p3, p4⟩ := rdP_at hp j hlt
      by_cases e1 : (rp l j).src = x
      · by_cases e2 : (rp l j).dst = y
        · by_cases e3 : (rp l j).cls = z
          · have f1 : ((rp l j).src == x) = true := beq_iff_eq.2 e1
            have f2 : ((rp l j).dst == y) = true := beq_iff_eq.2 e2
            have f3 : ((rp l j).cls == z) = true := beq_iff_eq.2 e3
            have hs := sentTo_yes (a := x) (b := y) (c := z) j hlt (by simp [sentOf, e1, e2, e3])
            have HS := Lib.hid hs
            clear hs e1 e2 e3
            go_wp2_with (at_builtin; refine app_int (W0 := w) rfl (.tmp 43) (.tmp 49) 24 3 rfl Try.underlying24 info_int _ (sentTo l x y z j) _ rfl (by first | rfl | exact congrArg (fun z => Value.slice (some ⟨z, 0, none⟩) 1 1) (World.size_alloc _ _).symm) (by exact Kd.R_below HO (by with_reducible repeat (first | assumption | exact bw_refl _ | apply bw_alloc | apply bw_drew | apply bw_drewN | refine bw_set _ ?_ (by omega) | refine bw_then ?_ (by assumption)))) (by with_reducible repeat (first | assumption | exact bw_refl _ | apply bw_alloc | apply bw_drew | apply bw_drewN | refine bw_set _ ?_ (by omega) | refine bw_then ?_ (by assumption))) (by omega) ?_; intro v1 w1 HO1 HB1; obtain ⟨hc1, hf1, hz1⟩ := bcell HB1; (try simp only [World.size_alloc, World.size_setCell, World.size_drew, sz_drewN] at hz1); have hb2 := HB1; have hb9 := HB1)
            go_roundw
            case rel => exact ⟨j + 1, by go_num, by omega, by rw [HS.out]; exact (by exact Kd.R_below HO1 (by with_reducible repeat (first | assumption | exact bw_refl _ | apply bw_alloc | apply bw_drew | apply bw_drewN | refine bw_set _ ?_ (by omega) | refine bw_then ?_ (by assumption)))), (by with_reducible repeat (first | assumption | exact bw_refl _ | apply bw_alloc | apply bw_drew | apply bw_drewN | refine bw_set _ ?_ (by omega) | refine bw_then ?_ (by assumption)))⟩
            case measure => simp [intOf]; omega
          · have f1 : ((rp l j).src == x) = true := beq_iff_eq.2 e1
            have f2 : ((rp l j).dst == y) = true := beq_iff_eq.2 e2
            have f3 : ((rp l j).cls == z) = false := beq_eq_false_iff_ne.2 e3
            have hs := sentTo_no (a := x) (b := y) (c := z) j hlt (by simp [sentOf, e3])
            have HS := Lib.hid hs
            clear hs e1 e2 e3
            go_wp2
            go_roundw
            case rel => exact ⟨j + 1, by go_num, by omega, by rw [HS.out]; exact (by exact Kd.R_below HO (by with_reducible repeat (first | assumption | exact bw_refl _ | apply bw_alloc | apply bw_drew | apply bw_drewN | refine bw_set _ ?_ (by omega) | refine bw_then ?_ (by assumption)))), (by with_reducible repeat (first | assumption | exact bw_refl _ | apply bw_alloc | apply bw_drew | apply bw_drewN | refine bw_set _ ?_ (by omega) | refine bw_then ?_ (by assumption)))⟩
            case measure => simp [intOf]; omega
        · have f1 : ((rp l j).src == x) = true := beq_iff_eq.2 e1
          have f2 : ((rp l j).dst == y) = false := beq_eq_false_iff_ne.2 e2
          have hs := sentTo_no (a := x) (b := y) (c := z) j hlt (by simp [sentOf, e2])
          have HS := Lib.hid hs
          clear hs e1 e2
          go_wp2
          go_roundw
          case rel => exact ⟨j + 1, by go_num, by omega, by rw [HS.out]; exact (by exact Kd.R_below HO (by with_reducible repeat (first | assumption | exact bw_refl _ | apply bw_alloc | apply bw_drew | apply bw_drewN | refine bw_set _ ?_ (by omega) | refine bw_then ?_ (by assumption)))), (by with_reducible repeat (first | assumption | exact bw_refl _ | apply bw_alloc | apply bw_drew | apply bw_drewN | refine bw_set _ ?_ (by omega) | refine bw_then ?_ (by assumption)))⟩
          case measure => simp [intOf]; omega
      · have f1 : ((rp l j).src == x) = false := beq_eq_false_iff_ne.2 e1
        have hs := sentTo_no (a := x) (b := y) (c := z) j hlt (by simp [sentOf, e1])
        have HS := Lib.hid hs
        clear hs e1
        go_wp2
        go_roundw
        case rel => exact ⟨j + 1, by go_num, by omega, by rw [HS.out]; exact (by exact Kd.R_below HO (by with_reducible repeat (first | assumption | exact bw_refl _ | apply bw_alloc | apply bw_drew | apply bw_drewN | refine bw_set _ ?_ (by omega) | refine bw_then ?_ (by assumption)))), (by with_reducible repeat (first | assumption | exact bw_refl _ | apply bw_alloc | apply bw_drew | apply bw_drewN | refine bw_set _ ?_ (by omega) | refine bw_then ?_ (by assumption)))⟩
        case measure => simp [intOf]; omega
    · go_wp2
      go_ret
      have hje : j = l.length := by omega
      subst hje
      exact ⟨⟨_, rfl, HO⟩, (by with_reducible repeat (first | assumption | exact bw_refl _ | apply bw_alloc | apply bw_drew | apply bw_drewN | refine bw_set _ ?_ (by omega) | refine bw_then ?_ (by assumption)))⟩

end Go.Proofs.Ytinnfahmfggghaa
