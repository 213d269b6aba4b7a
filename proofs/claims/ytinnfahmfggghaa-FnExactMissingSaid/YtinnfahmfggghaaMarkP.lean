/- The laws' marks on rows of packets. For all rows of at most a million elements. -/
import Derived.Test.YtinnfahmfggghaaMark
set_option linter.unusedVariables false
set_option linter.unusedSimpArgs false
namespace Go.Proofs.Ytinnfahmfggghaa
open Go.RowKit Go.Proofs.YtinnfahmfggghaaW.PrintWords
open NoC

def markQ (k : Int) (j : Nat) : Packet := ⟨k + 5 * j, k + 5 * j + 1, k + 5 * j + 1 + 1, k + 5 * j + 1 + 1 + 1, k + 5 * j + 1 + 1 + 1 + 1⟩
def markP (k : Int) (n : Nat) : List Packet := (List.range n).map (markQ k)
theorem markP_len (k : Int) (n : Nat) : (markP k n).length = n := by simp [markP]
theorem markP_get (k : Int) (n j : Nat) (h : j < n) : rp (markP k n) j = markQ k j := by
  simp [rp, markP, List.getD_eq_getElem?_getD, h]
/-- Five cells of element k written, one after the other. -/
theorem rowP_set {e base g m c : Nat} {w : World} {xs : List Packet} (h : kP.R e w base (fun _ => True) (.slice (some ⟨g, 0, none⟩) m c) xs) (k : Nat) (hk : k < m) (p : Packet) :
    kP.R e (((((w.setCell ⟨g, k * 5, none⟩ (.int .i64 p.id)).setCell ⟨g, k * 5 + 1, none⟩ (.int .i64 p.src)).setCell ⟨g, k * 5 + 2, none⟩ (.int .i64 p.dst)).setCell ⟨g, k * 5 + 3, none⟩ (.int .i64 p.cls)).setCell ⟨g, k * 5 + 4, none⟩ (.int .i64 p.len)) base (fun _ => True) (.slice (some ⟨g, 0, none⟩) m c) (xs.set k p) ∧
    w.grownBy (((((w.setCell ⟨g, k * 5, none⟩ (.int .i64 p.id)).setCell ⟨g, k * 5 + 1, none⟩ (.int .i64 p.src)).setCell ⟨g, k * 5 + 2, none⟩ (.int .i64 p.dst)).setCell ⟨g, k * 5 + 3, none⟩ (.int .i64 p.cls)).setCell ⟨g, k * 5 + 4, none⟩ (.int .i64 p.len)) (some g) := by
  have hc := rowF_cell zp h k hk
  have := Kd.R_seg (d := kP) h (k : Int) (by omega) (by omega) (c := pkCells (xs.getD k zp)) (seg := pkCells p) (j := 0) (okp := fun _ => False) (x' := p) rfl (fun j u hu => hc.1 j u hu) (by show 0 + 5 ≤ 5; omega) rfl (fun _ h => h.elim)
  exact this

set_option maxHeartbeats 2000000 in
theorem laws_markPacketS (l : List Packet) (k : Int) (A : Option Addr) (c base : Nat) (w : World) (HO0 : kP.R 64 w base (fun _ => True) (.slice A l.length c) l) (hn : l.length ≤ 1048576) (k0 : 0 ≤ k) (k1 : k ≤ 100000000000000000) :
    Calls Try.prog 33 #[.slice A l.length c, .int .i64 k] w fun e w' => e = .returned (.int .i64 (k + 5 * l.length)) ∧ kP.R 64 w' base (fun _ => True) (.slice A l.length c) (markP k l.length) ∧ w.grownBy w' (Value.slice A l.length c).ownBlock := by
  go_enter Try.func33, Try.ntmps33
  go_wp2
  go_loopw [1, 5] (fun v i wr => ∃ (j : Nat) (x : List Packet), i = .int .i64 j ∧ v = .int .i64 (k + 5 * j) ∧ j ≤ l.length ∧ Hid (x.length = l.length) ∧ Hid (∀ q : Nat, q < j → rp x q = markQ k q) ∧ kP.R 64 wr base (fun _ => True) (.slice A l.length c) x ∧ w.grownBy wr (Value.slice A l.length c).ownBlock) (fun _ i _ => l.length - (intOf i).toNat)
  case atStart => exact ⟨0, l, rfl, by simp, Nat.zero_le _, Lib.hid rfl, Lib.hid fun q h => absurd h (Nat.not_lt_zero _), HO0, World.grownBy.refl _ _⟩
  case round =>
    obtain ⟨j, x, rfl, rfl, hj, HL, HA, HO, HG⟩ := hrel
    by_cases hlt : j < l.length
    · obtain ⟨g, cap, hv, hgb, hgl, cells, HGC⟩ := Kd.R_form HO (by have := HL.out; omega)
      injection hv with hv1 hv2 hv3
      subst hv1
      subst hv3
      clear HGC hv2
      obtain ⟨hcc, hff⟩ := rowF_cell zp HO j hlt
      have x0 : wr.cell? ⟨g, j * 5, none⟩ = some (.int .i64 (rp x j).id) := hcc 0 _ rfl
      have x1 : wr.cell? ⟨g, j * 5 + 1, none⟩ = some (.int .i64 (rp x j).src) := hcc 1 _ rfl
      have x2 : wr.cell? ⟨g, j * 5 + 2, none⟩ = some (.int .i64 (rp x j).dst) := hcc 2 _ rfl
      have x3 : wr.cell? ⟨g, j * 5 + 3, none⟩ = some (.int .i64 (rp x j).cls) := hcc 3 _ rfl
      have x4 : wr.cell? ⟨g, j * 5 + 4, none⟩ = some (.int .i64 (rp x j).len) := hcc 4 _ rfl
      have f0 : wr.frozen? ⟨g, j * 5, none⟩ = false := hff 0
      have f1 := hff 1
      have f2 := hff 2
      have f3 := hff 3
      have f4 := hff 4
      have HP := rowP_set HO j hlt (markQ k j)
      have HS := Lib.hid HP
      clear HP hcc hff
      go_wp2
      go_roundw
      case rel => exact ⟨j + 1, x.set j (markQ k j), by go_num, by first | (push_cast; congr 1; omega) | (congr 1; push_cast; omega), by omega, Lib.hid (by rw [List.length_set]; exact HL.out), Lib.hid (upto (fun q hq => by rw [set_getP (by have := HL.out; omega) q (by have := HL.out; omega), if_neg (by omega)]; exact HA.out q hq) (by rw [set_getP (by have := HL.out; omega) j (by have := HL.out; omega), if_pos rfl])), HS.out.1, grown_trans HG HS.out.2⟩
      case measure => simp [intOf]; omega
    · go_wp2
      go_ret
      have e : x = markP k l.length := same_getP (by rw [HL.out, markP_len]) (fun q hq => by rw [markP_len] at hq; rw [HA.out q (by omega), markP_get _ _ _ hq])
      subst e
      exact ⟨ret_int (by rw [show j = l.length by omega]), HO, HG⟩
end Go.Proofs.Ytinnfahmfggghaa
