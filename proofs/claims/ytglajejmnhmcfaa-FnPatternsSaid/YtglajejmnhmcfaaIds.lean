/- Are the numbers of the packets distinct? What the program returns; for all lists of at most a million packets. -/
import Derived.Test.YtglajejmnhmcfaaLawP
import Derived.Test.YtglajejmnhmcfaaM4
set_option linter.unusedVariables false
set_option linter.unusedSimpArgs false
namespace Go.Proofs.Ytglajejmnhmcfaa
open Go.RowKit Go.Proofs.YtglajejmnhmcfaaW.PrintWords
open NoC

def idsAt (l : List Packet) (i : Nat) : Bool := allI i (fun j => (rp l j).id != (rp l i).id)
def idsDistinct (l : List Packet) : Bool := allI l.length (idsAt l)
set_option maxHeartbeats 1000000 in
theorem impl_IdsDistinct (l : List Packet) (D : Option Addr) (n : Nat) (w : World) (hp : kP.C w D l.length l) (hkl : l.length ≤ 1048576) (hcap : l.length ≤ n) :
    Calls Try.prog 22 #[.slice D l.length n] w fun e w' => e = .returned (.bool (idsDistinct l)) ∧ Below w.heap.size w w' := by
  go_enter Try.func22, Try.ntmps22
  go_wp2
  go_loopw [9] (fun i wr => ∃ j : Nat, i = .int .i64 j ∧ j ≤ l.length ∧ Hid (∀ a, a < j → idsAt l a = true) ∧ Below w.heap.size w wr) (fun i _ => l.length - (intOf i).toNat)
  case atStart => exact ⟨0, rfl, Nat.zero_le _, Lib.hid fun a h => absurd h (Nat.not_lt_zero _), (by with_reducible repeat (first | assumption | exact bw_refl _ | apply bw_alloc | apply bw_drew | apply bw_drewN | refine bw_set _ ?_ (by omega) | refine bw_then ?_ (by assumption)))⟩
  case round =>
    obtain ⟨j, rfl, hj, HA, HB⟩ := hrel
    obtain ⟨hc0, hf0, hz0⟩ := bcell HB
    by_cases hlt : j < l.length
    · obtain ⟨b, off, rfl, hbl, p0, p1, p2, p3, p4⟩ := rdP_at hp j hlt
      have i0 : (j : Int) < (l.length : Int) := by omega
      have i1 : (j : Int) ≤ (n : Int) := by omega
      have HP := Lib.hid hp
      clear hp
      go_wp2
      have HB2 : Below w.heap.size w (wr.alloc (.cells #[.int .i64 (rp l j).id, .int .i64 (rp l j).src, .int .i64 (rp l j).dst, .int .i64 (rp l j).cls, .int .i64 (rp l j).len] 40)) := (by with_reducible repeat (first | assumption | exact bw_refl _ | apply bw_alloc | apply bw_drew | apply bw_drewN | refine bw_set _ ?_ (by omega) | refine bw_then ?_ (by assumption)))
      go_loopw [18] (fun i wi => ∃ k : Nat, i = .int .i64 k ∧ k ≤ j ∧ Hid (∀ a, a < k → ((rp l a).id != (rp l j).id) = true) ∧ Below (wr.alloc (.cells #[.int .i64 (rp l j).id, .int .i64 (rp l j).src, .int .i64 (rp l j).dst, .int .i64 (rp l j).cls, .int .i64 (rp l j).len] 40)).heap.size (wr.alloc (.cells #[.int .i64 (rp l j).id, .int .i64 (rp l j).src, .int .i64 (rp l j).dst, .int .i64 (rp l j).cls, .int .i64 (rp l j).len] 40)) wi) (fun i _ => j - (intOf i).toNat)
      case atStart => exact ⟨0, rfl, Nat.zero_le _, Lib.hid fun a h => absurd h (Nat.not_lt_zero _), bw_refl _⟩
      case round =>
        obtain ⟨k, rfl, hk, HK, HBi⟩ := hrel
        obtain ⟨hc1, hf1, hz1⟩ := bcell HBi
        simp only [World.size_alloc, World.size_setCell, World.size_drew, sz_drewN] at hz1
        have y1 := lts1 hz1
        have HB3 := bw_then HB2 HBi
        obtain ⟨hc2, hf2, hz2⟩ := bcell HB3
        by_cases hk2 : k < j
        · obtain ⟨b2, off2, hbb, hbl2, r0, r1, r2, r3, r4⟩ := rdP_at HP.out k (by omega)
          injection hbb with hbb
          injection hbb with h1 h2
          subst h1 h2
          have i2 : (k : Int) < (j : Int) := by omega
          cases e : (rp l k).id == (rp l j).id
          · have E := Lib.hid e
            go_wp2
            go_roundw
            case rel => exact ⟨k + 1, by go_num, by omega, Lib.hid (upto HK.out (by rw [bne, E.out]; rfl)), (by with_reducible repeat (first | assumption | exact bw_refl _ | apply bw_alloc | apply bw_drew | apply bw_drewN | refine bw_set _ ?_ (by omega) | refine bw_then ?_ (by assumption)))⟩
            case measure => simp [intOf]; omega
          · have E := Lib.hid e
            go_wp2
            go_ret
            exact ⟨ret_bool (allI_false j hlt (allI_false k hk2 (by rw [bne, E.out]; rfl))).symm, (by with_reducible repeat (first | assumption | exact bw_refl _ | apply bw_alloc | apply bw_drew | apply bw_drewN | refine bw_set _ ?_ (by omega) | refine bw_then ?_ (by assumption)))⟩
        · have i2 : ¬ (k : Int) < (j : Int) := by omega
          go_wp2
          go_roundw
          case rel => exact ⟨j + 1, by go_num, by omega, Lib.hid (upto HA.out (allI_true fun a ha => HK.out a (by omega))), HB3⟩
          case measure => simp [intOf]; omega
    · go_wp2
      go_ret
      exact ⟨ret_bool (allI_true fun a ha => HA.out a (by omega)).symm, (by with_reducible repeat (first | assumption | exact bw_refl _ | apply bw_alloc | apply bw_drew | apply bw_drewN | refine bw_set _ ?_ (by omega) | refine bw_then ?_ (by assumption)))⟩
end Go.Proofs.Ytglajejmnhmcfaa
