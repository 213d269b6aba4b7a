/- The laws' marks: what is written into a row of one's own, and read again; the rows and boxes that lie elsewhere stay. For all rows of at most a million elements. -/
import Derived.Test.YtinnfahmfggghaaLawP
set_option linter.unusedVariables false
set_option linter.unusedSimpArgs false
namespace Go.Proofs.Ytinnfahmfggghaa
open Go.RowKit Go.Proofs.YtinnfahmfggghaaW.PrintWords
open NoC

def Within (v : Value) (lo hi : Nat) : Prop := ∀ k, v.ownBlock = some k → lo ≤ k ∧ k < hi
theorem within_R {α : Type} {d : Kd α} {e base : Nat} {w : World} {v : Value} {xs : List α} (h : d.R e w base (fun _ => True) v xs) : Within v base w.heap.size := fun k hk => ⟨Kd.R_base h k hk, Kd.R_lt h k hk⟩
def Apart (u v : Value) : Prop := u.ownBlock = none ∨ u.ownBlock ≠ v.ownBlock
theorem apart_lt {u v : Value} {a b c d : Nat} (hu : Within u a b) (hv : Within v c d) (h : b ≤ c) : Apart u v := by
  cases e : u.ownBlock with
  | none => exact .inl e
  | some k =>
    right
    intro e2
    have h1 := hu k e
    have h2 := hv k (by rw [← e2]; exact e)
    omega
theorem apart_gt {u v : Value} {a b c d : Nat} (hu : Within u a b) (hv : Within v c d) (h : d ≤ a) : Apart u v := by
  cases e : u.ownBlock with
  | none => exact .inl e
  | some k =>
    right
    intro e2
    have h1 := hu k e
    have h2 := hv k (by rw [← e2]; exact e)
    omega
theorem apart_comm {u v : Value} (h : Apart u v) : Apart v u := by
  rcases h with h | h
  · cases e : v.ownBlock with
    | none => exact .inl e
    | some k => right; rw [h, e]; simp
  · exact .inr (Ne.symm h)
theorem box_out {v : Value} {b lo hi : Nat} (hv : Within v lo hi) (h : b < lo ∨ hi ≤ b) : some b ≠ v.ownBlock := by
  intro e
  have := hv b e.symm
  omega
theorem Box.grown {w w1 : World} {b : Nat} {cs : Array Value} {row : Option Nat} (h : Box w b cs) (hg : w.grownBy w1 row) (hne : some b ≠ row) : Box w1 b cs := by
  refine ⟨Nat.lt_of_lt_of_le h.lt hg.size, fun o => ?_⟩
  have := hg.block b h.lt hne
  rw [← h.get o]
  unfold World.cell?
  rw [this]
theorem grown_trans {w w1 w2 : World} {r : Option Nat} (h : w.grownBy w1 r) (k : w1.grownBy w2 r) : w.grownBy w2 r :=
  ⟨k.os.trans h.os, k.tape.trans h.tape, k.output.trans h.output, Nat.le_trans h.size k.size, fun j hj hne => (k.block j (Nat.lt_of_lt_of_le hj h.size) hne).trans (h.block j hj hne)⟩
theorem grown_below {w w1 : World} (r : Option Nat) (h : Below w.heap.size w w1) : w.grownBy w1 r := ⟨h.os, h.tape, h.output, h.size, fun k hk _ => h.block k hk⟩
theorem bw_grown {w W W1 : World} {v : Value} {lo hi : Nat} (h : Below w.heap.size w W) (hg : W.grownBy W1 v.ownBlock) (hv : Within v lo hi) (hlo : w.heap.size ≤ lo) : Below w.heap.size w W1 :=
  h.grown hg h.size (fun k hk => Nat.le_trans hlo (hv k hk).1)
theorem R_grownI {e base : Nat} {w w1 : World} {v : Value} {xs : List Int} {row : Option Nat} (h : Kd.R (Kd.int .i64) e w base (fun _ => True) v xs) (hg : w.grownBy w1 row) (ha : v.ownBlock = none ∨ v.ownBlock ≠ row) : Kd.R (Kd.int .i64) e w1 base (fun _ => True) v xs := by
  obtain ⟨h0, inner, ho, hr⟩ := h
  exact ⟨h0, inner, ho.kept hg ha, hr⟩
theorem R_grownF {α : Type} {n : Nat} {enc : α → List Value} {hl : ∀ x, (enc x).length = n} {h1 : ∀ x, ∀ u ∈ enc x, u.oneCell' = true} {e base : Nat} {w w1 : World} {v : Value} {xs : List α} {row : Option Nat} (h : Kd.R (Kd.flat n enc hl h1) e w base (fun _ => True) v xs) (hg : w.grownBy w1 row) (ha : v.ownBlock = none ∨ v.ownBlock ≠ row) : Kd.R (Kd.flat n enc hl h1) e w1 base (fun _ => True) v xs := by
  obtain ⟨h0, inner, ho, hr⟩ := h
  exact ⟨h0, inner, ho.kept hg ha, hr⟩
theorem R_ownTo {e b1 b2 : Nat} {w : World} {v : Value} {xs : List Int} (h : Kd.R (Kd.int .i64) e w b1 (fun _ => True) v xs) (hb : b2 ≤ b1) : Kd.R (Kd.int .i64) e w b2 (fun _ => True) v xs := Kd.R_lower h hb
/-- The marks: k, k + 1, .. -/
def markL (k : Int) (n : Nat) : List Int := (List.range n).map (fun (j : Nat) => k + (j : Int))
theorem markL_len (k : Int) (n : Nat) : (markL k n).length = n := by simp [markL]
theorem markL_get (k : Int) (n j : Nat) (h : j < n) : ri (markL k n) j = k + j := by
  rw [ri_get _ j (by rw [markL_len]; exact h)]
  simp [markL]
theorem rowI_grown {e base g n cap : Nat} {ok : Nat → Prop} {W : World} {xs : List Int} (h : Kd.R (Kd.int .i64) e W base ok (.slice (some ⟨g, 0, none⟩) n cap) xs) (k : Nat) (v : Int) : W.grownBy (W.setCell ⟨g, k, none⟩ (.int .i64 v)) (Value.slice (some ⟨g, 0, none⟩) n cap).ownBlock := by
  have h2 := (Kd.R_putg h (k : Int) v).2
  rw [Int.toNat_natCast] at h2
  simpa [Value.ownBlock] using h2

set_option maxHeartbeats 1000000 in
theorem laws_markIntS (l : List Int) (k : Int) (A : Option Addr) (c base : Nat) (w : World) (HO0 : Kd.R (Kd.int .i64) 3 w base (fun _ => True) (.slice A l.length c) l) (hn : l.length ≤ 1048576) (k0 : 0 ≤ k) (k1 : k ≤ 100000000000000000) :
    Calls Try.prog 21 #[.slice A l.length c, .int .i64 k] w fun e w' => e = .returned (.int .i64 (k + l.length)) ∧ Kd.R (Kd.int .i64) 3 w' base (fun _ => True) (.slice A l.length c) (markL k l.length) ∧ w.grownBy w' (Value.slice A l.length c).ownBlock := by
  go_enter Try.func21, Try.ntmps21
  go_wp2
  go_loopw [1, 5] (fun v i wr => ∃ (j : Nat) (x : List Int), i = .int .i64 j ∧ v = .int .i64 (k + j) ∧ j ≤ l.length ∧ Hid (x.length = l.length) ∧ Hid (∀ q : Nat, q < j → ri x q = k + q) ∧ Kd.R (Kd.int .i64) 3 wr base (fun _ => True) (.slice A l.length c) x ∧ w.grownBy wr (Value.slice A l.length c).ownBlock) (fun _ i _ => l.length - (intOf i).toNat)
  case atStart => exact ⟨0, l, rfl, by simp, Nat.zero_le _, Lib.hid rfl, Lib.hid fun q h => absurd h (Nat.not_lt_zero _), HO0, World.grownBy.refl _ _⟩
  case round =>
    obtain ⟨j, x, rfl, rfl, hj, HL, HA, HO, HG⟩ := hrel
    by_cases hlt : j < l.length
    · obtain ⟨g, cap, hv, hgb, hgl, cells, HGC⟩ := Kd.R_form HO (by have := HL.out; omega)
      injection hv with hv1 hv2 hv3
      subst hv1
      subst hv3
      clear HGC hv2
      obtain ⟨hx9, hf9⟩ := rowI_cell HO j hlt
      have HP := rowI_set HO j (k + j)
      have HS := Lib.hid HP
      clear HP
      go_wp2
      go_roundw
      case rel => exact ⟨j + 1, x.set j (k + j), by go_num, by first | (push_cast; congr 1; omega) | (congr 1; push_cast; omega) | go_num, by omega, Lib.hid (by rw [List.length_set]; exact HL.out), Lib.hid (upto (fun q hq => by rw [set_get (by have := HL.out; omega) q (by have := HL.out; omega), if_neg (by omega)]; exact HA.out q hq) (by rw [set_get (by have := HL.out; omega) j (by have := HL.out; omega), if_pos rfl])), HS.out, grown_trans HG (rowI_grown HO j _)⟩
      case measure => simp [intOf]; omega
    · go_wp2
      go_ret
      have e : x = markL k l.length := same_get (by rw [HL.out, markL_len]) (fun q hq => by rw [markL_len] at hq; rw [HA.out q (by omega), markL_get _ _ _ hq])
      subst e
      exact ⟨ret_int (by rw [show j = l.length by omega]), HO, HG⟩
set_option maxHeartbeats 1000000 in
theorem laws_heldIntS (n : Nat) (k : Int) (A : Option Addr) (c : Nat) (w : World) (hr0 : Kd.C (Kd.int .i64) w A n (markL k n)) (hn : n ≤ 1048576) (k0 : 0 ≤ k) (k1 : k ≤ 100000000000000000) :
    Calls Try.prog 22 #[.slice A n c, .int .i64 k] w fun e w' => e = .returned (.int .i64 (k + n)) ∧ w = w' := by
  have hr : Kd.C (Kd.int .i64) w A (markL k n).length (markL k n) := by rw [markL_len]; exact hr0
  go_enter Try.func22, Try.ntmps22
  go_wp2
  go_loop [1, 5] (fun v i => ∃ j : Nat, i = .int .i64 j ∧ v = .int .i64 (k + j) ∧ j ≤ n) (fun _ i => n - (intOf i).toNat)
  case atStart => exact ⟨0, rfl, by simp, Nat.zero_le _⟩
  case round =>
    obtain ⟨j, rfl, rfl, hj⟩ := hrel
    by_cases hlt : j < n
    · obtain ⟨b, off, rfl, hb, hx⟩ := rdI_at hr j (by rw [markL_len]; exact hlt)
      have hxj := hx j (by rw [markL_len]; exact hlt)
      rw [markL_get _ _ _ hlt] at hxj
      have e0 := bne_self (k + (j : Int))
      clear hx
      go_wp2
      go_round
      case rel => exact ⟨j + 1, by go_num, by first | (push_cast; congr 1; omega) | (congr 1; push_cast; omega) | go_num, by omega⟩
      case measure => simp [intOf]; omega
    · go_wp2
      go_ret
      exact ⟨ret_int (by rw [show j = n by omega]), rfl⟩
end Go.Proofs.Ytinnfahmfggghaa
