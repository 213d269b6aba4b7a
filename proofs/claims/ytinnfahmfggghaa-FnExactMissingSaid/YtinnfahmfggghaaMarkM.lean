/- The laws' marks on meshes, tables and classes. For all rows of at most a million elements. -/
import Derived.Test.YtinnfahmfggghaaMark
set_option linter.unusedVariables false
set_option linter.unusedSimpArgs false
namespace Go.Proofs.Ytinnfahmfggghaa
open Go.RowKit Go.Proofs.YtinnfahmfggghaaW.PrintWords
open NoC

theorem laws_markTable (t : List Int) (k : Int) (A : Option Addr) (c base : Nat) (w : World) (HO : Kd.R (Kd.int .i64) 3 w base (fun _ => True) (.slice A t.length c) t) (hn : t.length ≤ 1048576) (k0 : 0 ≤ k) (k1 : k ≤ 1000000000) :
    Calls Try.prog 115 #[.agg #[.slice A t.length c], .int .i64 k] w fun e w' => e = .returned (.int .i64 (k + t.length)) ∧ Kd.R (Kd.int .i64) 3 w' base (fun _ => True) (.slice A t.length c) (markL k t.length) ∧ w.grownBy w' (Value.slice A t.length c).ownBlock := by
  go_enter Try.func115, Try.ntmps115
  go_wp2_with (go_at_call 21; refine (laws_markIntS t k A c base _ (by exact Kd.R_below HO (by with_reducible repeat (first | assumption | exact bw_refl _ | apply bw_alloc | apply bw_drew | apply bw_drewN | refine bw_set _ ?_ (by omega) | refine bw_then ?_ (by assumption)))) hn k0 (by omega)).mono ?_; rintro e w1 ⟨rfl, HR1, hg1⟩)
  go_ret
  exact ⟨rfl, HR1, grown_trans (World.grownBy_alloc _ _ _) hg1⟩
theorem laws_heldTable (n : Nat) (k : Int) (A : Option Addr) (c : Nat) (w : World) (hr0 : Kd.C (Kd.int .i64) w A n (markL k n)) (hn : n ≤ 1048576) (k0 : 0 ≤ k) (k1 : k ≤ 1000000000) :
    Calls Try.prog 117 #[.agg #[.slice A n c], .int .i64 k] w fun e w' => e = .returned (.int .i64 (k + n)) ∧ Below w.heap.size w w' := by
  go_enter Try.func117, Try.ntmps117
  go_wp2_with (go_at_call 22; refine (laws_heldIntS n k A c _ (by exact Kd.C_below hr0 (by with_reducible repeat (first | assumption | exact bw_refl _ | apply bw_alloc | apply bw_drew | apply bw_drewN | refine bw_set _ ?_ (by omega) | refine bw_then ?_ (by assumption)))) hn k0 (by omega)).mono ?_; rintro e w' ⟨rfl, rfl⟩)
  go_ret
  exact ⟨rfl, (by with_reducible repeat (first | assumption | exact bw_refl _ | apply bw_alloc | apply bw_drew | apply bw_drewN | refine bw_set _ ?_ (by omega) | refine bw_then ?_ (by assumption)))⟩
theorem laws_markMesh (m : Mesh) (k : Int) (A : Option Addr) (c base : Nat) (w : World) (HO : Kd.R (Kd.int .i64) 3 w base (fun _ => True) (.slice A m.br.length c) m.br) (hn : m.br.length ≤ 1048576) (k0 : 0 ≤ k) (k1 : k ≤ 1000000000) :
    Calls Try.prog 52 #[.agg #[.int .i64 m.g.w, .int .i64 m.g.h, .slice A m.br.length c], .int .i64 k] w fun e w' => e = .returned (.int .i64 (k + m.br.length)) ∧ w.grownBy w' (Value.slice A m.br.length c).ownBlock := by
  go_enter Try.func52, Try.ntmps52
  go_wp2_with (go_at_call 21; refine (laws_markIntS m.br k A c base _ (by exact Kd.R_below HO (by with_reducible repeat (first | assumption | exact bw_refl _ | apply bw_alloc | apply bw_drew | apply bw_drewN | refine bw_set _ ?_ (by omega) | refine bw_then ?_ (by assumption)))) hn k0 (by omega)).mono ?_; rintro e w1 ⟨rfl, _, hg1⟩)
  go_ret
  exact ⟨rfl, grown_trans (World.grownBy_alloc _ _ _) hg1⟩
theorem laws_markClasses (pa pb : List Int) (k : Int) (A B : Option Addr) (c d base : Nat) (w : World) (HA : Kd.R (Kd.int .i64) 3 w base (fun _ => True) (.slice A pa.length c) pa) (HB : Kd.R (Kd.int .i64) 3 w base (fun _ => True) (.slice B pb.length d) pb) (hap : Apart (.slice B pb.length d) (.slice A pa.length c)) (hn : pa.length ≤ 1048576) (hm : pb.length ≤ 1048576) (k0 : 0 ≤ k) (k1 : k ≤ 100000000) :
    Calls Try.prog 53 #[.agg #[.slice A pa.length c, .slice B pb.length d], .int .i64 k] w fun e w' => e = .returned (.int .i64 (k + pa.length + pb.length)) ∧ ∃ wm, w.grownBy wm (Value.slice A pa.length c).ownBlock ∧ wm.grownBy w' (Value.slice B pb.length d).ownBlock := by
  have hlt := Kd.R_lt HA
  have HLT := Lib.hid hlt
  clear hlt
  go_enter Try.func53, Try.ntmps53
  go_wp2_with (first | (go_at_call_of 115 pb; refine (laws_markTable pb _ B d base _ HB1 hm (by omega) (by omega)).mono ?_; rintro e w2 ⟨rfl, _, hg2⟩) | (go_at_call_of 115 pa; refine (laws_markTable pa k A c base _ (by exact Kd.R_below HA (by with_reducible repeat (first | assumption | exact bw_refl _ | apply bw_alloc | apply bw_drew | apply bw_drewN | refine bw_set _ ?_ (by omega) | refine bw_then ?_ (by assumption)))) hn k0 (by omega)).mono ?_; rintro e w1 ⟨rfl, _, hg1⟩; have B0 := Box.grown (Box.new w w.heap.size #[.slice A pa.length c, .slice B pb.length d] _ rfl) hg1 (by intro e; have := HLT.out _ e.symm; omega); have HB1 := R_grownI (Kd.R_below HB (bw_alloc _ (bw_refl w))) hg1 hap; obtain ⟨y0, g0⟩ := B0))
  go_ret
  exact ⟨rfl, _, grown_trans (World.grownBy_alloc _ _ _) hg1, hg2⟩
end Go.Proofs.Ytinnfahmfggghaa
