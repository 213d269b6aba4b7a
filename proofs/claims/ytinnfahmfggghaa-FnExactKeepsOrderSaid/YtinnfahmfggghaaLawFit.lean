/- Small facts for the walks of the laws; no program. -/
import Derived.Test.YtinnfahmfggghaaBox
import Derived.Test.YtinnfahmfggghaaM3
set_option linter.unusedVariables false
namespace Go.Proofs.Ytinnfahmfggghaa
open NoC

theorem szN_fits {n : Nat} {left : Int} (h : ¬ szN n left < 0) : (n : Int) ≤ left := by
  unfold szN at h; split at h <;> omega
theorem szCls_fits {pa pb : List Int} {left : Int} (h : ¬ szClsI pa pb left < 0) : ¬ szN pa.length left < 0 ∧ ¬ szN pb.length (szN pa.length left) < 0 := by
  unfold szClsI at h; split at h
  · omega
  · exact ⟨by assumption, h⟩

theorem mesh_self (m : Mesh) : (decide (m.g = m.g) && eqL m.br m.br) = true := by rw [eqL_self, decide_eq_true rfl]; rfl
theorem szCls_range {pa pb : List Int} {left : Int} (h : -1 ≤ left) (h1 : left ≤ 1048576) : -1 ≤ szClsI pa pb left ∧ szClsI pa pb left ≤ 1048576 := by
  unfold szClsI
  obtain ⟨a, b⟩ := szN_range (n := pa.length) h h1
  split
  · omega
  · exact szN_range a b
end Go.Proofs.Ytinnfahmfggghaa
