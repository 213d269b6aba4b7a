/- The first of some inputs from a turn on; what slices.DeleteFunc keeps: the program's helpers of GrantsAt. -/
import Derived.Test.YtopoemnkeodkgaaGreatReqJ
import Derived.Test.YtopoemnkeodkgaaGreatReqS
import Derived.Test.YtopoemnkeodkgaaGreatMG
import Derived.Lib.SliceRun
set_option linter.unusedVariables false
set_option linter.unusedSimpArgs false
namespace Go.Proofs.YtopoemnkeodkgaaGreat
open Go.RowKit Go.Proofs.YtopoemnkeodkgaaGreatW.PrintWords
open NoC

/-- A block of plain cells. -/
def Blk (W : World) (b : Nat) (t : TypeId) (cs : Array Value) : Prop := W.heap[b]? = some (.cells cs t (0, 0))
theorem Blk.lt {W : World} {b : Nat} {t : TypeId} {cs : Array Value} (h : Blk W b t cs) : b < W.heap.size := (Array.getElem?_eq_some_iff.1 h).1
theorem Blk.cell {W : World} {b : Nat} {t : TypeId} {cs : Array Value} (h : Blk W b t cs) (o : Nat) : W.cell? ⟨b, o, none⟩ = cs[o]? := by
  unfold World.cell?
  rw [show W.heap[b]? = _ from h]
  rfl
theorem Blk.frozen {W : World} {b : Nat} {t : TypeId} {cs : Array Value} (h : Blk W b t cs) (o : Nat) : W.frozen? ⟨b, o, none⟩ = false := by
  unfold World.frozen?
  rw [show W.heap[b]? = _ from h]
  simp
theorem Blk.new (W : World) (b : Nat) (t : TypeId) (cs : Array Value) (hb : b = W.heap.size) : Blk (W.alloc (.cells cs t)) b t cs := by
  subst hb
  exact (show (W.heap.push _)[W.heap.size]? = _ from Array.getElem?_push_size)
theorem Blk.below {W W1 : World} {b : Nat} {t : TypeId} {cs : Array Value} (h : Blk W b t cs) (hb : Below W.heap.size W W1) : Blk W1 b t cs := (hb.block b h.lt).trans h
theorem Blk.grown {W W1 : World} {b : Nat} {t : TypeId} {cs : Array Value} {row : Option Nat} (h : Blk W b t cs) (hg : W.grownBy W1 row) (hne : some b ≠ row) : Blk W1 b t cs := (hg.block b h.lt hne).trans h
theorem Blk.set {W : World} {b : Nat} {t : TypeId} {cs : Array Value} (h : Blk W b t cs) (i : Nat) (v : Value) : Blk (W.setCell ⟨b, i, none⟩ v) b t (cs.setIfInBounds i v) := by
  show (W.heap.modify b _)[b]? = _
  have hlt := h.lt
  have h2 : W.heap[b]? = some (.cells cs t (0, 0)) := h
  rw [Array.getElem?_eq_getElem hlt] at h2
  injection h2 with h2
  rw [Array.getElem?_eq_getElem (by rw [Array.size_modify]; exact hlt), Array.getElem_modify_self, h2]
  rfl
def uCells (us : List Bool) : Array Value := (us.map Value.bool).toArray
theorem uCells_get {us : List Bool} {o : Nat} (h : o < us.length) : (uCells us)[o]? = some (.bool (us.getD o false)) := by
  simp [uCells, h, List.getD_eq_getElem?_getD]
theorem uCells_set (us : List Bool) (i : Nat) (b : Bool) : (uCells us).setIfInBounds i (.bool b) = uCells (us.set i b) := by
  simp [uCells, List.map_set]
/-- The used inputs' box. -/
def UB (t : TypeId) (w : World) (gm : Nat) (us : List Bool) : Prop := us.length = 5 ∧ Blk w gm t (uCells us)
theorem UB.cell {t : TypeId} {w : World} {gm : Nat} {us : List Bool} (h : UB t w gm us) {x : Int} (h0 : 0 ≤ x) (h9 : x ≤ 9) : w.cell? ⟨gm, (x / 2).toNat, none⟩ = some (.bool (usedAt us x)) := by
  rw [h.2.cell, uCells_get (by have := h.1; omega)]
  rfl
theorem UB.below {t : TypeId} {w w1 : World} {gm : Nat} {us : List Bool} (h : UB t w gm us) (hb : Below w.heap.size w w1) : UB t w1 gm us := ⟨h.1, h.2.below hb⟩
theorem UB.grown {t : TypeId} {w w1 : World} {gm : Nat} {us : List Bool} {row : Option Nat} (h : UB t w gm us) (hg : w.grownBy w1 row) (hne : some gm ≠ row) : UB t w1 gm us := ⟨h.1, h.2.grown hg hne⟩

set_option maxHeartbeats 1000000 in
theorem impl_FirstFrom (l : List Int) (t : Int) (A : Option Addr) (c : Nat) (w : World) (hr : Kd.C (Kd.int .i64) w A l.length l) (hn : l.length ≤ 1048576) (hs : smallL l) (t0 : 0 ≤ t) (t9 : t ≤ 9) :
    Calls Tryz.prog 148 #[.slice A l.length c, .int .i64 t] w fun e w' => e = .returned (.int .i64 (firstFrom l t)) ∧ w = w' := by
  have ia : allI l.length (fun i => inside (ri l i) 0 9) = true := allI_true (fun i hi => inside_iff.2 (hs i hi))
  have it : inside t 0 9 = true := inside_iff.2 ⟨t0, t9⟩
  have HS := Lib.hid hs
  clear hs
  go_enter Tryz.func148, Tryz.ntmps148
  go_wp2_with (first | (go_at_call 100; refine (impl_areInside l 0 9 A c _ hr hn).mono ?_; rintro e w' ⟨rfl, rfl⟩) | (go_at_call 79; refine (impl_inside _ _ _ _).mono ?_; rintro e w' ⟨rfl, rfl⟩))
  go_loop [5, 18] (fun b i => ∃ k : Nat, i = .int .i64 k ∧ k ≤ l.length ∧ b = .int .i64 (firstTo l t k)) (fun _ i => l.length - (intOf i).toNat)
  case atStart => exact ⟨0, rfl, Nat.zero_le _, rfl⟩
  case round =>
    obtain ⟨k, rfl, hk, rfl⟩ := hrel
    obtain ⟨f0, f1⟩ := firstTo_range (turn := t) HS.out k hk
    by_cases hlt : k < l.length
    · obtain ⟨b, off, rfl, hb, hx⟩ := rdI_at hr k hlt
      have hxk := hx k hlt
      clear hx
      obtain ⟨x0, x9⟩ := HS.out k hlt
      have hsucc := firstTo_succ l t k hlt
      obtain ⟨x, ex⟩ : ∃ x, ri l k = x := ⟨_, rfl⟩
      obtain ⟨best, eb⟩ : ∃ b, firstTo l t k = b := ⟨_, rfl⟩
      rw [ex] at x0 x9 hxk hsucc
      rw [eb] at f0 f1 hsucc
      have HSU := Lib.hid hsucc
      clear hsucc ex
      rw [eb]
      clear eb
      by_cases hb0 : best < 0
      · have HV := Lib.hid (better_1 (turn := t) (x := x) hb0)
        go_wp2
        go_round
        case rel => exact ⟨k + 1, by go_num, by omega, by rw [HSU.out, HV.out]⟩
        case measure => simp [intOf]; omega
      · by_cases hd : (x - t + 10) % 10 < (best - t + 10) % 10
        · have HV := Lib.hid (better_2 hb0 hd)
          go_wp2
          go_round
          case rel => exact ⟨k + 1, by go_num, by omega, by rw [HSU.out, HV.out]⟩
          case measure => simp [intOf]; omega
        · have HV := Lib.hid (better_3 hb0 hd)
          go_wp2
          go_round
          case rel => exact ⟨k + 1, by go_num, by omega, by rw [HSU.out, HV.out]⟩
          case measure => simp [intOf]; omega
    · obtain rfl : k = l.length := by omega
      go_wp2
      go_ret
      exact ⟨rfl, rfl⟩
set_option maxHeartbeats 1000000 in
theorem spec_FirstFrom (l : List Int) (t : Int) (A : Option Addr) (c : Nat) (w : World) (hr : Kd.C (Kd.int .i64) w A l.length l) (hn : l.length ≤ 1048576) (hs : smallL l) (t0 : 0 ≤ t) (t9 : t ≤ 9) :
    Calls Tryz.prog 149 #[.slice A l.length c, .int .i64 t] w fun e w' => e = .returned (.int .i64 (firstFrom l t)) ∧ w = w' := by
  have it : inside t 0 9 = true := inside_iff.2 ⟨t0, t9⟩
  have HS := Lib.hid hs
  clear hs
  go_enter Tryz.func149, Tryz.ntmps149
  go_wp2
  go_loop [5, 6] (fun b i => ∃ k : Nat, i = .int .i64 k ∧ k ≤ l.length ∧ b = .int .i64 (firstTo l t k)) (fun _ i => l.length - (intOf i).toNat)
  case atStart => exact ⟨0, rfl, Nat.zero_le _, rfl⟩
  case round =>
    obtain ⟨k, rfl, hk, rfl⟩ := hrel
    obtain ⟨f0, f1⟩ := firstTo_range (turn := t) HS.out k hk
    by_cases hlt : k < l.length
    · obtain ⟨b, off, rfl, hb, hx⟩ := rdI_at hr k hlt
      have hxk := hx k hlt
      clear hx
      obtain ⟨x0, x9⟩ := HS.out k hlt
      have hsucc := firstTo_succ l t k hlt
      obtain ⟨x, ex⟩ : ∃ x, ri l k = x := ⟨_, rfl⟩
      obtain ⟨best, eb⟩ : ∃ b, firstTo l t k = b := ⟨_, rfl⟩
      rw [ex] at x0 x9 hxk hsucc
      rw [eb] at f0 f1 hsucc
      have HSU := Lib.hid hsucc
      have ix : inside x 0 9 = true := inside_iff.2 ⟨x0, x9⟩
      clear hsucc ex
      rw [eb]
      clear eb
      by_cases hb0 : best < 0
      · have HV := Lib.hid (better_1 (turn := t) (x := x) hb0)
        go_wp2_with (go_at_call 70; refine (spec_l01In _ _ _ _).mono ?_; rintro e w' ⟨rfl, rfl⟩)
        go_round
        case rel => exact ⟨k + 1, by go_num, by omega, by rw [HSU.out, HV.out]⟩
        case measure => simp [intOf]; omega
      · by_cases hd : (x - t + 10) % 10 < (best - t + 10) % 10
        · have HV := Lib.hid (better_2 hb0 hd)
          go_wp2_with (go_at_call 70; refine (spec_l01In _ _ _ _).mono ?_; rintro e w' ⟨rfl, rfl⟩)
          go_round
          case rel => exact ⟨k + 1, by go_num, by omega, by rw [HSU.out, HV.out]⟩
          case measure => simp [intOf]; omega
        · have HV := Lib.hid (better_3 hb0 hd)
          go_wp2_with (go_at_call 70; refine (spec_l01In _ _ _ _).mono ?_; rintro e w' ⟨rfl, rfl⟩)
          go_round
          case rel => exact ⟨k + 1, by go_num, by omega, by rw [HSU.out, HV.out]⟩
          case measure => simp [intOf]; omega
    · obtain rfl : k = l.length := by omega
      go_wp2
      go_ret
      exact ⟨rfl, rfl⟩
theorem impl_grants_1 (us : List Bool) (x : Int) (gm : Nat) (w : World) (hu : UB 153 w gm us) (h0 : 0 ≤ x) (h9 : x ≤ 9) :
    Calls Tryz.prog 147 #[.int .i64 x, .pointer (some ⟨gm, 0, none⟩)] w fun e w' => e = .returned (.bool (usedAt us x)) ∧ w = w' := by
  have hc := hu.cell h0 h9
  have hl := hu.2.lt
  have i0 : 0 ≤ x / 2 := by omega
  have i1 : x / 2 < 5 := by omega
  clear hu
  go_enter Tryz.func147, Tryz.ntmps147
  go_wp2
  go_ret
  exact ⟨rfl, rfl⟩
/-- The first used input's place, or -1. -/
def IdxU (us : List Bool) (l : List Int) (r : Int) : Prop := (r = -1 ∧ ∀ j : Nat, j < l.length → usedAt us (ri l j) = false) ∨ ∃ k : Nat, r = k ∧ k < l.length ∧ usedAt us (ri l k) = true ∧ ∀ j : Nat, j < k → usedAt us (ri l j) = false
set_option maxHeartbeats 1000000 in
theorem slices_IndexFunc_I (l : List Int) (us : List Bool) (gm : Nat) (A : Option Addr) (c : Nat) (w : World) (hr : Kd.C (Kd.int .i64) w A l.length l) (hn : l.length ≤ 1048576) (hs : smallL l) (hu : UB 153 w gm us) :
    Calls Tryz.prog 162 #[.slice A l.length c, .func (.func 147) #[] #[.pointer (some ⟨gm, 0, none⟩)]] w fun e w' => (∃ r, e = .returned (.int .i64 r) ∧ Hid (IdxU us l r)) ∧ w = w' := by
  have HS := Lib.hid hs
  have HU := Lib.hid hu
  clear hs hu
  go_enter Tryz.func162, Tryz.ntmps162
  go_wp2
  go_loop [8] (fun i => ∃ j : Nat, i = .int .i64 j ∧ j ≤ l.length ∧ Hid (∀ q : Nat, q < j → usedAt us (ri l q) = false)) (fun i => l.length - (intOf i).toNat)
  case atStart => exact ⟨0, rfl, Nat.zero_le _, Lib.hid fun x h => absurd h (Nat.not_lt_zero _)⟩
  case round =>
    obtain ⟨j, rfl, hj, HA⟩ := hrel
    by_cases hlt : j < l.length
    · obtain ⟨b, off, rfl, hb, hx⟩ := rdI_at hr j hlt
      have hxk := hx j hlt
      clear hx
      obtain ⟨x0, x9⟩ := HS.out j hlt
      cases e : usedAt us (ri l j)
      · have E := Lib.hid e
        go_wp2_with (go_at_call 147; refine (impl_grants_1 us (ri l j) gm _ HU.out x0 x9).mono ?_; rintro e w' ⟨rfl, rfl⟩)
        go_round
        case rel => exact ⟨j + 1, by go_num, by omega, Lib.hid (upto HA.out E.out)⟩
        case measure => simp [intOf]; omega
      · have E := Lib.hid e
        go_wp2_with (go_at_call 147; refine (impl_grants_1 us (ri l j) gm _ HU.out x0 x9).mono ?_; rintro e w' ⟨rfl, rfl⟩)
        go_ret
        exact ⟨⟨_, rfl, Lib.hid (.inr ⟨j, rfl, hlt, E.out, HA.out⟩)⟩, rfl⟩
    · go_wp2
      go_ret
      exact ⟨⟨_, rfl, Lib.hid (.inl ⟨rfl, fun x hx => HA.out x (by omega)⟩)⟩, rfl⟩
/-- Cells behind the first i are cleared. -/
theorem R_clear {e base g n cap i m : Nat} {W : World} {xs : List Int} (h : Kd.R (Kd.int .i64) e W base (fun _ => True) (.slice (some ⟨g, 0, none⟩) n cap) xs) (hi : i ≤ xs.length) (hm : i + m = xs.length) (z : Value) :
    Kd.R (Kd.int .i64) e (W.setCells g i (List.replicate m z)) base (fun _ => True) (.slice (some ⟨g, 0, none⟩) i cap) (xs.take i) ∧ W.grownBy (W.setCells g i (List.replicate m z)) (some g) := by
  obtain ⟨s1, s2, s3, s4⟩ := setCells_same g (List.replicate m z) i W
  refine ⟨?_, ⟨s1, s2, s3, by rw [s4]; exact Nat.le_refl _, fun k _ hk => setCells_far _ _ k (fun he => hk (by rw [he]))⟩⟩
  have h2 := Kd.R_take h hi
  have hcap : n ≤ cap ∧ n = xs.length := by
    have h3 := Kd.R_row h
    exact ⟨h3.2.1, h3.1⟩
  obtain ⟨h0, inner, ⟨h1, ho⟩, hr⟩ := h2
  refine ⟨fun _ _ => trivial, inner, ⟨h1, ?_⟩, hr⟩
  rcases ho with ⟨he, _⟩ | ⟨g', cap', cur, he, hb, hh, hnc, hcm, hcs, ht⟩
  · cases he
  injection he with ea _ ec
  injection ea with ea
  injection ea with eg
  subst eg
  subst ec
  have hsz : (Kd.int .i64).sz = 1 := rfl
  have hl : (xs.take i).length = i := by rw [List.length_take]; omega
  rw [hsz, Nat.mul_one] at hcs
  rw [hsz, Nat.mul_one, hl] at ht
  obtain ⟨cur', c1, c2, c3⟩ := setCells_row (List.replicate m z) i W cur hh (by rw [List.length_replicate]; omega)
  refine .inr ⟨g, cap, cur', by rw [hl], hb, c1, hnc, hcm, by rw [c2, hsz]; omega, ?_⟩
  rw [c3, ← ht, hsz, Nat.mul_one, hl]
  rw [List.append_assoc, List.take_append_of_le_length (by rw [List.length_take, Array.length_toList]; omega), List.take_take, Nat.min_self]
set_option maxHeartbeats 4000000 in
theorem slices_DeleteFunc (l : List Int) (us : List Bool) (gm : Nat) (A : Option Addr) (c base : Nat) (w : World) (HO0 : Kd.R (Kd.int .i64) 3 w base (fun _ => True) (.slice A l.length c) l) (hn : l.length ≤ 1000) (hs : smallL l) (hu : UB 153 w gm us) (hgb : gm < base) :
    Calls Tryz.prog 145 #[.slice A l.length c, .func (.func 147) #[] #[.pointer (some ⟨gm, 0, none⟩)]] w fun e w' => (∃ v, e = .returned v ∧ Kd.R (Kd.int .i64) 3 w' base (fun _ => True) v (l.filter (keepU us))) ∧ w.grownBy w' (Value.slice A l.length c).ownBlock := by
  have HS := Lib.hid hs
  have HU := Lib.hid hu
  have HR := Lib.hid HO0
  have hcap := (Kd.R_row HO0).2.1
  have hwi := within_R HO0
  have HW := Lib.hid hwi
  clear hs hu HO0 hwi
  go_enter Tryz.func145, Tryz.ntmps145
  go_wp2_with fail
  refine (slices_IndexFunc_I l us gm A c _ (Kd.R_row HR.out).2.2 (by omega) HS.out HU.out).mono ?_
  rintro e w' ⟨⟨r, rfl, HI⟩, rfl⟩
  rcases HI.out with ⟨rfl, hall⟩ | ⟨k, rfl, hk, hu1, hbf⟩
  · have E : Hid (l.filter (keepU us) = l) := Lib.hid (by
      have h1 := keptTo_all (us := us) (l := l) l.length (Nat.le_refl _) hall
      unfold keptTo at h1
      rwa [List.take_length] at h1)
    clear hall
    go_wp2
    go_ret
    exact ⟨⟨_, rfl, by rw [E.out]; exact HR.out⟩, World.grownBy.refl _ _⟩
  · obtain ⟨g, cap, hv, hbg, hgl, cells, HGC⟩ := Kd.R_form HR.out (by omega)
    injection hv with hv1 hv2 hv3
    subst hv1
    subst hv3
    have hgm : some gm ≠ some g := fun e => by injection e with e; omega
    have e1 : ((k : Int) == -1) = false := beq_eq_false_iff_ne.2 (by omega)
    have HK1 := Lib.hid (keptTo_no (us := us) k hk hu1)
    have HK2 := Lib.hid (keptTo_all (us := us) (l := l) k (by omega) hbf)
    have zv : ∀ w : World, (zeroValue 3).run Tryz.prog w = .ok (.int .i64 0) w := fun _ => by first | kernel_rfl | simp [zeroValue, go_sem]
    clear HGC hv2 hu1 hbf HI
    go_wp2
    go_loopw [5, 6] (fun s5 s6 wr => ∃ (i j : Nat) (dk : List Int), s5 = .int .i64 i ∧ s6 = .int .i64 j ∧ i < j ∧ j ≤ l.length ∧ Hid (i = (keptTo us l j).length) ∧ Hid (dk.length = l.length) ∧ Hid ((∀ q : Nat, q < i → ri dk q = ri (keptTo us l j) q) ∧ ∀ q : Nat, j ≤ q → ri dk q = ri l q) ∧ Kd.R (Kd.int .i64) 3 wr base (fun _ => True) (.slice (some ⟨g, 0, none⟩) l.length c) dk ∧ w.grownBy wr (some g)) (fun _ s6 _ => l.length - (intOf s6).toNat)
    case atStart => exact ⟨k, k + 1, l, rfl, by go_num, by omega, by omega, Lib.hid (by rw [HK1.out, HK2.out, List.length_take]; omega), Lib.hid rfl, Lib.hid ⟨fun q hq => by
        rw [HK1.out, HK2.out]
        have h1 : q < (l.take k).length := by rw [List.length_take]; omega
        rw [ri_get _ q h1, ri_get l q (by omega), List.getElem_take], fun _ _ => rfl⟩, HR.out, World.grownBy.refl _ _⟩
    case round =>
      obtain ⟨i, j, dk, rfl, rfl, hij, hj, HI, HL, HA, HO, HG⟩ := hrel
      have hil : i < l.length ∨ i < l.length := by omega
      have hil := hil.elim id id
      obtain ⟨hxi, hfi⟩ := rowI_cell HO i hil
      have HUR := Lib.hid (HU.out.grown HG hgm)
      by_cases hlt : j < l.length
      · obtain ⟨hxj, hfj⟩ := rowI_cell HO j hlt
        rw [HA.out.2 j (Nat.le_refl _)] at hxj
        obtain ⟨x0, x9⟩ := HS.out j hlt
        have HOH := Lib.hid HO
        clear HO hfj
        cases e : usedAt us (ri l j)
        · have HK := Lib.hid (keptTo_yes j hlt e)
          go_wp2_with (go_at_call 147; refine (impl_grants_1 us (ri l j) gm _ HUR.out x0 x9).mono ?_; rintro e w' ⟨rfl, rfl⟩)
          go_roundw
          case rel =>
            have hset : ∀ q : Nat, q < l.length → ri (dk.set i (ri l j)) q = if i = q then ri l j else ri dk q := fun q hq => set_get (by have := HL.out; omega) q (by have := HL.out; omega)
            refine ⟨i + 1, j + 1, dk.set i (ri l j), by go_num, by go_num, by omega, by omega, Lib.hid (by rw [HK.out, List.length_append]; have := HI.out; simp; omega), Lib.hid (by rw [List.length_set]; exact HL.out), Lib.hid ⟨fun q hq => ?_, fun q hq => ?_⟩, rowI_set HOH.out i (ri l j), grown_trans HG (rowI_grown HOH.out i _)⟩
            · rw [hset q (by omega), HK.out]
              have hI := HI.out
              by_cases e2 : i = q
              · subst e2
                rw [if_pos rfl, ri_get _ i (by rw [List.length_append]; simp; omega), List.getElem_append_right (by omega)]
                simp [← hI]
              · rw [if_neg e2, HA.out.1 q (by omega), ri_get _ q (by omega), ri_get _ q (by rw [List.length_append]; omega), List.getElem_append_left (by omega)]
            · by_cases hql : q < l.length
              · rw [hset q hql, if_neg (by omega), HA.out.2 q (by omega)]
              · have h1 := HL.out
                simp [ri, List.getD_eq_getElem?_getD, h1, hql]
          case measure => simp [intOf]; omega
        · have HK := Lib.hid (keptTo_no j hlt e)
          go_wp2_with (go_at_call 147; refine (impl_grants_1 us (ri l j) gm _ HUR.out x0 x9).mono ?_; rintro e w' ⟨rfl, rfl⟩)
          go_roundw
          case rel => exact ⟨i, j + 1, dk, rfl, by go_num, by omega, by omega, Lib.hid (by rw [HK.out]; exact HI.out), HL, Lib.hid ⟨fun q hq => by rw [HK.out]; exact HA.out.1 q hq, fun q hq => HA.out.2 q (by omega)⟩, HOH.out, HG⟩
          case measure => simp [intOf]; omega
      · obtain rfl : j = l.length := by omega
        have hci : ¬ c = i := by omega
        have hcl : ∀ ty, (Builtin.clear_ #[24] ty #[.slice (some ⟨g, i, none⟩) (l.length - i) (c - i)]).run Tryz.prog wr = .ok (.tuple #[]) (wr.setCells g i (List.replicate (l.length - i) (.int .i64 0))) :=
          fun ty => Lib.run_clear_slice wr 24 3 ty (.int .i64 0) Tryz.underlying24 zv rfl rfl g i _ _ (by omega) (fun t ht => by rw [(rowI_cell HO (i + t) (by omega)).1]; rfl) (fun t ht => (rowI_cell HO (i + t) (by omega)).2)
        have E : Hid (dk.take i = l.filter (keepU us)) := Lib.hid (by
          have h1 : keptTo us l l.length = l.filter (keepU us) := by unfold keptTo; rw [List.take_length]
          have h2 := HI.out
          have h3 := HL.out
          have h4 := keptTo_len us l l.length
          rw [← h1]
          refine same_get (by rw [List.length_take]; omega) (fun q hq => ?_)
          rw [← HA.out.1 q (by omega), ri_get _ q (by rw [List.length_take]; omega), ri_get dk q (by omega), List.getElem_take])
        have HC := Lib.hid (R_clear (i := i) (m := l.length - i) HO (by have := HL.out; omega) (by have := HL.out; omega) (.int .i64 0))
        clear HO zv
        go_wp2
        go_ret
        exact ⟨⟨_, rfl, by rw [← E.out]; exact HC.out.1⟩, grown_trans HG HC.out.2⟩
end Go.Proofs.YtopoemnkeodkgaaGreat
