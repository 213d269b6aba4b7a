/- The laws' own words on rows of waits: compare, mark, read again; for all rows of at most a million. -/
import Derived.Test.YtinnfahmfggghaaWt
set_option linter.unusedVariables false
set_option linter.unusedSimpArgs false
namespace Go.Proofs.Ytinnfahmfggghaa
open Go.RowKit Go.Proofs.YtinnfahmfggghaaW.PrintWords
open NoC

def markWaitQ (k : Int) (j : Nat) : Wait := ⟨k + 2 * j, k + 2 * j + 1⟩
def markWaitL (k : Int) (n : Nat) : List Wait := (List.range n).map (markWaitQ k)
theorem markWait_len (k : Int) (n : Nat) : (markWaitL k n).length = n := by simp [markWaitL]
theorem markWait_get (k : Int) (n j : Nat) (h : j < n) : rw_ (markWaitL k n) j = markWaitQ k j := by
  simp [rw_, markWaitL, List.getD_eq_getElem?_getD, h]
theorem rowW_put {e base g m c : Nat} {w : World} {xs : List Wait} (h : kW.R e w base (fun _ => True) (.slice (some ⟨g, 0, none⟩) m c) xs) (k : Nat) (hk : k < m) (p : Wait) :
    kW.R e ((w.setCell ⟨g, k * 2, none⟩ (.int .i64 p.a)).setCell ⟨g, k * 2 + 1, none⟩ (.int .i64 p.b)) base (fun _ => True) (.slice (some ⟨g, 0, none⟩) m c) (xs.set k p) ∧ w.grownBy ((w.setCell ⟨g, k * 2, none⟩ (.int .i64 p.a)).setCell ⟨g, k * 2 + 1, none⟩ (.int .i64 p.b)) (some g) := by
  have hc := rowF_cell zw h k hk
  have := Kd.R_seg (d := kW) h (k : Int) (by omega) (by omega) (c := wCells (xs.getD k zw)) (seg := wCells p) (j := 0) (okp := fun _ => False) (x' := p) rfl (fun j u hu => hc.1 j u hu) (by show 0 + 2 ≤ 2; omega) rfl (fun _ h => h.elim)
  exact this
set_option maxHeartbeats 2000000 in
theorem laws_markWaitS2 (l : List Wait) (k : Int) (A : Option Addr) (c base : Nat) (w : World) (HO0 : kW.R 122 w base (fun _ => True) (.slice A l.length c) l) (hn : l.length ≤ 1048576) (k0 : 0 ≤ k) (k1 : k ≤ 100000000000000000) :
    Calls Try.prog 41 #[.slice A l.length c, .int .i64 k] w fun e w' => e = .returned (.int .i64 (k + 2 * l.length)) ∧ kW.R 122 w' base (fun _ => True) (.slice A l.length c) (markWaitL k l.length) ∧ w.grownBy w' (Value.slice A l.length c).ownBlock := by
  go_enter Try.func41, Try.ntmps41
  go_wp2
  go_loopw [1, 5] (fun v i wr => ∃ (j : Nat) (x : List Wait), i = .int .i64 j ∧ v = .int .i64 (k + 2 * j) ∧ j ≤ l.length ∧ Hid (x.length = l.length) ∧ Hid (∀ q : Nat, q < j → rw_ x q = markWaitQ k q) ∧ kW.R 122 wr base (fun _ => True) (.slice A l.length c) x ∧ w.grownBy wr (Value.slice A l.length c).ownBlock) (fun _ i _ => l.length - (intOf i).toNat)
  case atStart => exact ⟨0, l, rfl, by simp, Nat.zero_le _, Lib.hid rfl, Lib.hid fun q h => absurd h (Nat.not_lt_zero _), HO0, World.grownBy.refl _ _⟩
  case round =>
    obtain ⟨j, x, rfl, rfl, hj, HL, HA, HO, HG⟩ := hrel
    by_cases hlt : j < l.length
    · obtain ⟨g, cap, hv, hgb, hgl, cells, HGC⟩ := Kd.R_form HO (by have := HL.out; omega)
      injection hv with hv1 hv2 hv3
      subst hv1
      subst hv3
      clear HGC hv2
      obtain ⟨hcc, hff⟩ := rowF_cell zw HO j hlt
      have x0 : wr.cell? ⟨g, j * 2, none⟩ = some (.int .i64 (rw_ x j).a) := hcc 0 _ rfl
      have x1 : wr.cell? ⟨g, j * 2 + 1, none⟩ = some (.int .i64 (rw_ x j).b) := hcc 1 _ rfl
      have f0 : wr.frozen? ⟨g, j * 2, none⟩ = false := hff 0
      have f1 : wr.frozen? ⟨g, j * 2 + 1, none⟩ = false := hff 1
      have HP := rowW_put HO j hlt (markWaitQ k j)
      have HS := Lib.hid HP
      clear HP hcc hff
      go_wp2
      go_roundw
      case rel => exact ⟨j + 1, x.set j (markWaitQ k j), by go_num, by first | (push_cast; congr 1; omega) | (congr 1; push_cast; omega), by omega, Lib.hid (by rw [List.length_set]; exact HL.out), Lib.hid (upto (fun q hq => by rw [set_getW (by have := HL.out; omega) q (by have := HL.out; omega), if_neg (by omega)]; exact HA.out q hq) (by rw [set_getW (by have := HL.out; omega) j (by have := HL.out; omega), if_pos rfl])), HS.out.1, grown_trans HG HS.out.2⟩
      case measure => simp [intOf]; omega
    · go_wp2
      go_ret
      have e : x = markWaitL k l.length := same_getW (by rw [HL.out, markWait_len]) (fun q hq => by rw [markWait_len] at hq; rw [HA.out q (by omega), markWait_get _ _ _ hq])
      subst e
      exact ⟨ret_int (by rw [show j = l.length by omega]), HO, HG⟩
set_option maxHeartbeats 2000000 in
theorem laws_heldWaitS (n : Nat) (k : Int) (A : Option Addr) (c : Nat) (w : World) (hr0 : kW.C w A n (markWaitL k n)) (hn : n ≤ 1048576) (k0 : 0 ≤ k) (k1 : k ≤ 100000000000000000) :
    Calls Try.prog 42 #[.slice A n c, .int .i64 k] w fun e w' => e = .returned (.int .i64 (k + 2 * n)) ∧ w = w' := by
  have hr : kW.C w A (markWaitL k n).length (markWaitL k n) := by rw [markWait_len]; exact hr0
  go_enter Try.func42, Try.ntmps42
  go_wp2
  go_loop [1, 5] (fun v i => ∃ j : Nat, i = .int .i64 j ∧ v = .int .i64 (k + 2 * j) ∧ j ≤ n) (fun _ i => n - (intOf i).toNat)
  case atStart => exact ⟨0, rfl, by simp, Nat.zero_le _⟩
  case round =>
    obtain ⟨j, rfl, rfl, hj⟩ := hrel
    by_cases hlt : j < n
    · obtain ⟨b, off, rfl, hb, p0, p1⟩ := rdW_at hr j (by rw [markWait_len]; exact hlt)
      rw [markWait_get _ _ _ hlt] at p0 p1
      simp only [markWaitQ] at p0 p1
      have e0 := bne_self (k + 2 * (j : Int))
      have e1 := bne_self (k + 2 * (j : Int) + 1)
      go_wp2
      go_round
      case rel => exact ⟨j + 1, by go_num, by first | (push_cast; congr 1; omega) | (congr 1; push_cast; omega), by omega⟩
      case measure => simp [intOf]; omega
    · go_wp2
      go_ret
      exact ⟨ret_int (by rw [show j = n by omega]), rfl⟩
end Go.Proofs.Ytinnfahmfggghaa
