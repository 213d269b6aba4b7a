/- Loads of sources and targets: what the program and the reference return; for all lists of at most a million packets. -/
import Derived.Test.YtglajejmnhmcfaaLawP
import Derived.Test.YtglajejmnhmcfaaM4
set_option linter.unusedVariables false
set_option linter.unusedSimpArgs false
namespace Go.Proofs.Ytglajejmnhmcfaa
open Go.RowKit Go.Proofs.YtglajejmnhmcfaaW.PrintWords
open NoC

/-- The lengths of the packets from (to) a node, added as the program adds. -/
def srcTo (l : List Packet) (a : Int) (k : Nat) : Int := (l.take k).foldl (fun s p => if p.src = a then wrap64 (s + p.len) else s) 0
def dstTo (l : List Packet) (a : Int) (k : Nat) : Int := (l.take k).foldl (fun s p => if p.dst = a then wrap64 (s + p.len) else s) 0
theorem srcTo_succ (l : List Packet) (a : Int) (k : Nat) (hk : k < l.length) : srcTo l a (k + 1) = if (rp l k).src = a then wrap64 (srcTo l a k + (rp l k).len) else srcTo l a k := by
  unfold srcTo
  rw [take_snoc l k hk, List.foldl_append]
  rfl
theorem dstTo_succ (l : List Packet) (a : Int) (k : Nat) (hk : k < l.length) : dstTo l a (k + 1) = if (rp l k).dst = a then wrap64 (dstTo l a k + (rp l k).len) else dstTo l a k := by
  unfold dstTo
  rw [take_snoc l k hk, List.foldl_append]
  rfl
theorem impl_SourceLoad (l : List Packet) (x : Int) (D : Option Addr) (n : Nat) (w : World) (hp : kP.C w D l.length l) (hkl : l.length ≤ 1048576) :
    Calls Try.prog 33 #[.slice D l.length n, .int .i64 x] w fun e w' => e = .returned (.int .i64 (srcTo l x l.length)) ∧ Below w.heap.size w w' := by
  go_enter Try.func33, Try.ntmps33
  go_wp2
  go_loopw [5, 10] (fun s i wr => ∃ j : Nat, i = .int .i64 j ∧ s = .int .i64 (srcTo l x j) ∧ j ≤ l.length ∧ Below w.heap.size w wr) (fun _ i _ => l.length - (intOf i).toNat)
  case atStart => exact ⟨0, rfl, rfl, Nat.zero_le _, (by with_reducible repeat (first | assumption | exact bw_refl _ | apply bw_alloc | apply bw_drew | apply bw_drewN | refine bw_set _ ?_ (by omega) | refine bw_then ?_ (by assumption)))⟩
  case round =>
    obtain ⟨j, rfl, rfl, hj, HB⟩ := hrel
    obtain ⟨hc0, hf0, hz0⟩ := bcell HB
    by_cases hlt : j < l.length
    · obtain ⟨b, off, rfl, hbl, p0, p1, p2, p3, p4⟩ := rdP_at hp j hlt
      have HS := Lib.hid (srcTo_succ l x j hlt)
      by_cases e : (rp l j).src = x
      · have e1 : ((rp l j).src == x) = true := beq_iff_eq.2 e
        have E := Lib.hid e
        clear e
        go_wp2
        go_roundw
        case rel => exact ⟨j + 1, by go_num, by rw [HS.out, if_pos E.out], by omega, (by with_reducible repeat (first | assumption | exact bw_refl _ | apply bw_alloc | apply bw_drew | apply bw_drewN | refine bw_set _ ?_ (by omega) | refine bw_then ?_ (by assumption)))⟩
        case measure => simp [intOf]; omega
      · have e1 : ((rp l j).src == x) = false := beq_eq_false_iff_ne.2 e
        have E := Lib.hid e
        clear e
        go_wp2
        go_roundw
        case rel => exact ⟨j + 1, by go_num, by rw [HS.out, if_neg E.out], by omega, (by with_reducible repeat (first | assumption | exact bw_refl _ | apply bw_alloc | apply bw_drew | apply bw_drewN | refine bw_set _ ?_ (by omega) | refine bw_then ?_ (by assumption)))⟩
        case measure => simp [intOf]; omega
    · go_wp2
      go_ret
      exact ⟨ret_int (by rw [show j = l.length by omega]), (by with_reducible repeat (first | assumption | exact bw_refl _ | apply bw_alloc | apply bw_drew | apply bw_drewN | refine bw_set _ ?_ (by omega) | refine bw_then ?_ (by assumption)))⟩
theorem impl_TargetLoad (l : List Packet) (x : Int) (D : Option Addr) (n : Nat) (w : World) (hp : kP.C w D l.length l) (hkl : l.length ≤ 1048576) :
    Calls Try.prog 31 #[.slice D l.length n, .int .i64 x] w fun e w' => e = .returned (.int .i64 (dstTo l x l.length)) ∧ Below w.heap.size w w' := by
  go_enter Try.func31, Try.ntmps31
  go_wp2
  go_loopw [5, 10] (fun s i wr => ∃ j : Nat, i = .int .i64 j ∧ s = .int .i64 (dstTo l x j) ∧ j ≤ l.length ∧ Below w.heap.size w wr) (fun _ i _ => l.length - (intOf i).toNat)
  case atStart => exact ⟨0, rfl, rfl, Nat.zero_le _, (by with_reducible repeat (first | assumption | exact bw_refl _ | apply bw_alloc | apply bw_drew | apply bw_drewN | refine bw_set _ ?_ (by omega) | refine bw_then ?_ (by assumption)))⟩
  case round =>
    obtain ⟨j, rfl, rfl, hj, HB⟩ := hrel
    obtain ⟨hc0, hf0, hz0⟩ := bcell HB
    by_cases hlt : j < l.length
    · obtain ⟨b, off, rfl, hbl, p0, p1, p2, p3, p4⟩ := rdP_at hp j hlt
      have HS := Lib.hid (dstTo_succ l x j hlt)
      by_cases e : (rp l j).dst = x
      · have e1 : ((rp l j).dst == x) = true := beq_iff_eq.2 e
        have E := Lib.hid e
        clear e
        go_wp2
        go_roundw
        case rel => exact ⟨j + 1, by go_num, by rw [HS.out, if_pos E.out], by omega, (by with_reducible repeat (first | assumption | exact bw_refl _ | apply bw_alloc | apply bw_drew | apply bw_drewN | refine bw_set _ ?_ (by omega) | refine bw_then ?_ (by assumption)))⟩
        case measure => simp [intOf]; omega
      · have e1 : ((rp l j).dst == x) = false := beq_eq_false_iff_ne.2 e
        have E := Lib.hid e
        clear e
        go_wp2
        go_roundw
        case rel => exact ⟨j + 1, by go_num, by rw [HS.out, if_neg E.out], by omega, (by with_reducible repeat (first | assumption | exact bw_refl _ | apply bw_alloc | apply bw_drew | apply bw_drewN | refine bw_set _ ?_ (by omega) | refine bw_then ?_ (by assumption)))⟩
        case measure => simp [intOf]; omega
    · go_wp2
      go_ret
      exact ⟨ret_int (by rw [show j = l.length by omega]), (by with_reducible repeat (first | assumption | exact bw_refl _ | apply bw_alloc | apply bw_drew | apply bw_drewN | refine bw_set _ ?_ (by omega) | refine bw_then ?_ (by assumption)))⟩
end Go.Proofs.Ytglajejmnhmcfaa
