/- The laws' own words on ints, grids, meshes, tables and classes: measure, copy, compare; for all lists of at most a million entries. -/
import Derived.Test.YtglajejmnhmcfaaOwn
import Derived.Test.YtglajejmnhmcfaaM3
set_option linter.unusedVariables false
set_option linter.unusedSimpArgs false
namespace Go.Proofs.Ytglajejmnhmcfaa
open Go.RowKit Go.Proofs.YtglajejmnhmcfaaW.PrintWords
open NoC

theorem laws_toGrid (g : Grid) (w : World) : Calls Try.prog 10 #[.agg #[.int .i64 g.w, .int .i64 g.h]] w fun e w' => e = .returned (.agg #[.int .i64 g.w, .int .i64 g.h]) ∧ Below w.heap.size w w' := by
  go_enter Try.func10, Try.ntmps10
  go_wp2
  exact bodyPost_ret (v := .agg #[.int .i64 g.w, .int .i64 g.h]) (by simp [results, Try.results10, go_sem]) rfl ⟨rfl, (by with_reducible repeat (first | assumption | exact bw_refl _ | apply bw_alloc | apply bw_drew | apply bw_drewN | refine bw_set _ ?_ (by omega) | refine bw_then ?_ (by assumption)))⟩
end Go.Proofs.Ytglajejmnhmcfaa
