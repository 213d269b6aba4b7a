/- The laws' own words on rows of waits: compare, mark, read again; for all rows of at most a million. -/
import Derived.Test.YtopoemnkeodkgaaGreatWt
set_option linter.unusedVariables false
set_option linter.unusedSimpArgs false
namespace Go.Proofs.YtopoemnkeodkgaaGreat
open Go.RowKit Go.Proofs.YtopoemnkeodkgaaGreatW.PrintWords
open NoC

def markWaitQ (k : Int) (j : Nat) : Wait := ⟨k + 2 * j, k + 2 * j + 1⟩
def markWaitL (k : Int) (n : Nat) : List Wait := (List.range n).map (markWaitQ k)
theorem markWait_len (k : Int) (n : Nat) : (markWaitL k n).length = n := by simp [markWaitL]
theorem markWait_get (k : Int) (n j : Nat) (h : j < n) : rw_ (markWaitL k n) j = markWaitQ k j := by
  simp [rw_, markWaitL, List.getD_eq_getElem?_getD, h]
theorem rowW_put {e base g m c : Nat} {w : World} {xs : List Wait} (h : kW.R e w base (fun _ => True) (.slice (some ⟨g, 0, none⟩) m c) xs) (k : Nat) (hk : k < m) (p : Wait) :
    kW.R e ((w.setCell ⟨g, k * 2, none⟩ (.int .i64 p.a)).setCell ⟨g, k * 2 + 1, none⟩ (.int .i64 p.b)) base (fun _ => True) (.slice (some ⟨g, 0, none⟩) m c) (xs.set k p) ∧ w.grownBy ((w.setCell ⟨g, k * 2, none⟩ (.int .i64 p.a)).setCell ⟨g, k * 2 + 1, none⟩ (.int .i64 p.b)) (some g) := by
  have hc := rowF_cell zw h k hk
  have := Kd.R_seg (d := kW) h (k : Int) (by omega) (by omega) (c := wCells (xs.getD k zw)) (seg := wCells p) (j := 0) (okp := fun _ => False) (x' := p) rfl (fun j u hu => hc.1 j u hu) (by show 0 + 2 ≤ 2; omega) rfl (fun _ h => h.elim)
  exact this
end Go.Proofs.YtopoemnkeodkgaaGreat
