/- The laws' marks on meshes, tables and classes. For all rows of at most a million elements. -/
import Derived.Test.YtfofebegfobjdaaMark
set_option linter.unusedVariables false
set_option linter.unusedSimpArgs false
namespace Go.Proofs.Ytfofebegfobjdaa
open Go.RowKit Go.Proofs.YtfofebegfobjdaaW.PrintWords
open NoC

theorem laws_markTable (t : List Int) (k : Int) (A : Option Addr) (c base : Nat) (w : World) (HO : Kd.R (Kd.int .i64) 3 w base (fun _ => True) (.slice A t.length c) t) (hn : t.length ≤ 1048576) (k0 : 0 ≤ k) (k1 : k ≤ 1000000000) :
    Calls Try.prog 20 #[.agg #[.slice A t.length c], .int .i64 k] w fun e w' => e = .returned (.int .i64 (k + t.length)) ∧ Kd.R (Kd.int .i64) 3 w' base (fun _ => True) (.slice A t.length c) (markL k t.length) ∧ w.grownBy w' (Value.slice A t.length c).ownBlock := by
  go_enter Try.func20, Try.ntmps20
  go_wp2_with (go_at_call 35; refine (laws_markIntS t k A c base _ (by exact Kd.R_below HO (by with_reducible repeat (first | assumption | exact bw_refl _ | apply bw_alloc | apply bw_drew | apply bw_drewN | refine bw_set _ ?_ (by omega) | refine bw_then ?_ (by assumption)))) hn k0 k1).mono ?_; rintro e w1 ⟨rfl, HR1, hg1⟩)
  go_ret
  exact ⟨rfl, HR1, grown_trans (World.grownBy_alloc _ _ _) hg1⟩
theorem laws_heldTable (n : Nat) (k : Int) (A : Option Addr) (c : Nat) (w : World) (hr0 : Kd.C (Kd.int .i64) w A n (markL k n)) (hn : n ≤ 1048576) (k0 : 0 ≤ k) (k1 : k ≤ 1000000000) :
    Calls Try.prog 21 #[.agg #[.slice A n c], .int .i64 k] w fun e w' => e = .returned (.int .i64 (k + n)) ∧ Below w.heap.size w w' := by
  go_enter Try.func21, Try.ntmps21
  go_wp2_with (go_at_call 36; refine (laws_heldIntS n k A c _ (by exact Kd.C_below hr0 (by with_reducible repeat (first | assumption | exact bw_refl _ | apply bw_alloc | apply bw_drew | apply bw_drewN | refine bw_set _ ?_ (by omega) | refine bw_then ?_ (by assumption)))) hn k0 k1).mono ?_; rintro e w' ⟨rfl, rfl⟩)
  go_ret
  exact ⟨rfl, (by with_reducible repeat (first | assumption | exact bw_refl _ | apply bw_alloc | apply bw_drew | apply bw_drewN | refine bw_set _ ?_ (by omega) | refine bw_then ?_ (by assumption)))⟩
end Go.Proofs.Ytfofebegfobjdaa
