/- A wait among others: slices.Contains at waits. -/
import Derived.Test.YtopoemnkeodkgaaGreatWt
import Derived.Test.YtopoemnkeodkgaaGreatWEqStruct
set_option linter.unusedVariables false
set_option linter.unusedSimpArgs false
namespace Go.Proofs.YtopoemnkeodkgaaGreat
open Go.RowKit Go.Proofs.YtopoemnkeodkgaaGreatW.PrintWords
open NoC

def isEdge (l : List Wait) (x y : Int) (k : Nat) : Bool := (rw_ l k).a == x && (rw_ l k).b == y
def edgeTo (l : List Wait) (x y : Int) : Nat → Bool
  | 0 => false
  | k + 1 => edgeTo l x y k || isEdge l x y k
def nextOf (c : List Int) (k : Nat) : Int := ri c (((k : Int) + 1) % (c.length : Int))
def edgesTo (l : List Wait) (c : List Int) : Nat → Bool
  | 0 => true
  | k + 1 => edgesTo l c k && edgeTo l (ri c k) (nextOf c k) l.length
theorem edgeTo_more {l : List Wait} {x y : Int} {k : Nat} : ∀ j : Nat, k ≤ j → edgeTo l x y k = true → edgeTo l x y j = true := by
  intro j
  induction j with
  | zero =>
    intro h h1
    have : k = 0 := by omega
    rwa [this] at h1
  | succ j ih =>
    intro h h1
    by_cases e : k = j + 1
    · subst e; exact h1
    · simp [edgeTo, ih (by omega) h1]
theorem edgeTo_hit {l : List Wait} {x y : Int} {k : Nat} (hk : k < l.length) (h : isEdge l x y k = true) : edgeTo l x y l.length = true :=
  edgeTo_more (k := k + 1) l.length (by omega) (by simp [edgeTo, h])
theorem edgesTo_miss {l : List Wait} {c : List Int} {k : Nat} (h : edgeTo l (ri c k) (nextOf c k) l.length = false) : ∀ j : Nat, k < j → edgesTo l c j = false := by
  intro j
  induction j with
  | zero => intro h; omega
  | succ j ih =>
    intro h1
    by_cases e : k = j
    · subst e; simp [edgesTo, h]
    · simp [edgesTo, ih (by omega)]
set_option maxHeartbeats 2000000 in
theorem slices_IndexW (l : List Wait) (x y : Int) (A : Option Addr) (c : Nat) (w : World) (hr : kW.C w A l.length l) (hn : l.length ≤ 1048576) :
    Calls Tryz.prog 114 #[.slice A l.length c, .agg #[.int .i64 x, .int .i64 y]] w fun e w' => (∃ i : Int, e = .returned (.int .i64 i) ∧ Hid (decide (0 ≤ i) = edgeTo l x y l.length)) ∧ Below w.heap.size w w' := by
  have R := Lib.hid hr
  clear hr
  go_enter Tryz.func114, Tryz.ntmps114
  go_wp2
  go_loopw [8] (fun i wr => ∃ j : Nat, i = .int .i64 j ∧ j ≤ l.length ∧ Hid (edgeTo l x y j = false) ∧ Below (w.alloc (.cells #[.int .i64 x, .int .i64 y] 91)).heap.size (w.alloc (.cells #[.int .i64 x, .int .i64 y] 91)) wr) (fun i _ => l.length - (intOf i).toNat)
  case atStart => exact ⟨0, rfl, Nat.zero_le _, Lib.hid rfl, bw_refl _⟩
  case round =>
    obtain ⟨j, rfl, hj, HA, HB⟩ := hrel
    obtain ⟨hcr, hfr, hzr⟩ := bcell HB
    simp only [World.size_alloc, World.size_setCell, World.size_drew, sz_drewN] at hzr
    by_cases hlt : j < l.length
    · obtain ⟨b, off, rfl, hb, hx1, hx2⟩ := rdW_at R.out j hlt
      have yb : b ≠ w.heap.size := by omega
      obtain ⟨u, hu⟩ : ∃ u, (rw_ l (j : Int)).a = u := ⟨_, rfl⟩
      obtain ⟨v, hv⟩ : ∃ v, (rw_ l (j : Int)).b = v := ⟨_, rfl⟩
      rw [hu] at hx1
      rw [hv] at hx2
      have HE : Hid (isEdge l x y j = (u == x && v == y)) := Lib.hid (by rw [isEdge, hu, hv])
      clear hu hv
      by_cases e1 : x = u
      · subst e1
        by_cases e2 : y = v
        · subst e2
          have E := Lib.hid (edgeTo_hit hlt (HE.out.trans (by simp)))
          clear HE
          go_wp2
          go_quiet (fail)
          go_wp2
          go_ret
          exact ⟨⟨_, rfl, Lib.hid (by rw [E.out]; simp)⟩, (by with_reducible repeat (first | assumption | exact bw_refl _ | apply bw_alloc | apply bw_drew | apply bw_drewN | refine bw_set _ ?_ (by omega) | refine bw_then ?_ (by assumption)))⟩
        · have E : Hid (edgeTo l x y (j + 1) = false) := Lib.hid (by simp [edgeTo, HA.out, HE.out, Ne.symm e2])
          clear HE
          go_wp2
          go_quiet (fail)
          go_wp2
          go_round
          case rel => exact ⟨j + 1, by go_num, by omega, E, (by with_reducible repeat (first | assumption | exact bw_refl _ | apply bw_alloc | apply bw_drew | apply bw_drewN | refine bw_set _ ?_ (by omega) | refine bw_then ?_ (by assumption)))⟩
          case measure => simp [intOf]; omega
      · have E : Hid (edgeTo l x y (j + 1) = false) := Lib.hid (by simp [edgeTo, HA.out, HE.out, Ne.symm e1])
        clear HE
        go_wp2
        go_quiet (fail)
        go_wp2
        go_round
        case rel => exact ⟨j + 1, by go_num, by omega, E, (by with_reducible repeat (first | assumption | exact bw_refl _ | apply bw_alloc | apply bw_drew | apply bw_drewN | refine bw_set _ ?_ (by omega) | refine bw_then ?_ (by assumption)))⟩
        case measure => simp [intOf]; omega
    · obtain rfl : j = l.length := by omega
      go_wp2
      go_ret
      exact ⟨⟨_, rfl, Lib.hid (by rw [HA.out]; rfl)⟩, (by with_reducible repeat (first | assumption | exact bw_refl _ | apply bw_alloc | apply bw_drew | apply bw_drewN | refine bw_set _ ?_ (by omega) | refine bw_then ?_ (by assumption)))⟩
theorem slices_ContainsW (l : List Wait) (x y : Int) (A : Option Addr) (c : Nat) (w : World) (hr : kW.C w A l.length l) (hn : l.length ≤ 1048576) :
    Calls Tryz.prog 60 #[.slice A l.length c, .agg #[.int .i64 x, .int .i64 y]] w fun e w' => e = .returned (.bool (edgeTo l x y l.length)) ∧ Below w.heap.size w w' := by
  have R := Lib.hid hr
  clear hr
  go_enter Tryz.func60, Tryz.ntmps60
  go_wp2_with (go_at_call 114; refine (slices_IndexW l x y A c _ (by exact Kd.C_below R.out (by with_reducible repeat (first | assumption | exact bw_refl _ | apply bw_alloc | apply bw_drew | apply bw_drewN | refine bw_set _ ?_ (by omega) | refine bw_then ?_ (by assumption)))) hn).mono ?_; rintro e w1 ⟨⟨i, rfl, HI⟩, hb1⟩; obtain ⟨hc1, hf1, hz1⟩ := bcell hb1; (try simp only [World.size_alloc, World.size_setCell, World.size_drew, sz_drewN] at hz1); have hb2 := (by first | exact bw_then hb2 hb1 | exact bw_then (bw_drewN _ hb2) hb1 | exact bw_then (bw_alloc _ hb2) hb1 | exact bw_then (bw_drew hb2) hb1 | exact bw_then HB hb1 | exact bw_then (bw_drewN _ HB) hb1 | exact bw_then (bw_alloc _ HB) hb1 | exact bw_then (bw_drew HB) hb1 | exact hb1); obtain ⟨hc2, hf2, hz2⟩ := bcell hb2; (try simp only [World.size_alloc, World.size_setCell, World.size_drew, sz_drewN] at hz2); try (first | obtain ⟨hy1, hy2, hy3, hy4⟩ := lts4 hz2 | obtain ⟨hy1, hy2, hy3⟩ := lts3 hz2 | obtain ⟨hy1, hy2⟩ := lts2 hz2 | have hy1 := lts1 hz2); have hb9 := hb1)
  go_ret
  exact ⟨ret_bool HI.out, (by with_reducible repeat (first | assumption | exact bw_refl _ | apply bw_alloc | apply bw_drew | apply bw_drewN | refine bw_set _ ?_ (by omega) | refine bw_then ?_ (by assumption)))⟩
end Go.Proofs.YtopoemnkeodkgaaGreat
