/- Names and targets of the patterns: what the program and the reference return; for all numbers. -/
import Derived.Test.YtglajejmnhmcfaaScal
set_option linter.unusedVariables false
set_option linter.unusedSimpArgs false
namespace Go.Proofs.Ytglajejmnhmcfaa
open Go.RowKit Go.Proofs.YtglajejmnhmcfaaW.PrintWords
open NoC

theorem ret_str {a b : ByteArray} (h : a = b) : Ending.returned (.string a) = .returned (.string b) := by rw [h]
def pname (x : Int) : ByteArray :=
  if x = 1 then ⟨#[116, 114, 97, 110, 115, 112, 111, 115, 101]⟩ else if x = 2 then ⟨#[99, 111, 109, 112, 108, 101, 109, 101, 110, 116]⟩
  else if x = 3 then ⟨#[104, 111, 116, 115, 112, 111, 116]⟩ else if x = 4 then ⟨#[110, 101, 105, 103, 104, 98, 111, 114]⟩ else ⟨#[]⟩
theorem pname_no {x : Int} (h : inside x 1 4 = false) : pname x = ⟨#[]⟩ := by
  have h1 : ¬ (1 ≤ x ∧ x ≤ 4) := by simpa [inside] using h
  unfold pname
  rw [if_neg (by omega), if_neg (by omega), if_neg (by omega), if_neg (by omega)]
theorem impl_PatternName (x : Int) (w : World) : Calls Try.prog 23 #[.int .i64 x] w fun e w' => e = .returned (.string (pname x)) ∧ Below w.heap.size w w' := by
  go_enter Try.func23, Try.ntmps23
  cases h : inside x 1 4
  · go_wp2_with (go_at_call 43; refine (impl_inside _ _ _ _).mono ?_; rintro e w' ⟨rfl, rfl⟩)
    go_ret
    exact ⟨ret_str (pname_no h).symm, (by with_reducible repeat (first | assumption | exact bw_refl _ | apply bw_alloc | apply bw_drew | apply bw_drewN | refine bw_set _ ?_ (by omega) | refine bw_then ?_ (by assumption)))⟩
  · obtain ⟨b1, b2⟩ := inside_bounds h
    have hx : x = 1 ∨ x = 2 ∨ x = 3 ∨ x = 4 := by omega
    clear b1 b2
    have x1 : ∀ w, (Instr.index 68 (.agg #[Value.string { data := #[] }, Value.string { data := #[116, 114, 97, 110, 115, 112, 111, 115, 101] }, Value.string { data := #[99, 111, 109, 112, 108, 101, 109, 101, 110, 116] }, Value.string { data := #[104, 111, 116, 115, 112, 111, 116] }, Value.string { data := #[110, 101, 105, 103, 104, 98, 111, 114] }]) (.int .i64 1)).run Try.prog w = .ok (Value.string { data := #[116, 114, 97, 110, 115, 112, 111, 115, 101] }) w := fun _ => by kernel_rfl
    have x2 : ∀ w, (Instr.index 68 (.agg #[Value.string { data := #[] }, Value.string { data := #[116, 114, 97, 110, 115, 112, 111, 115, 101] }, Value.string { data := #[99, 111, 109, 112, 108, 101, 109, 101, 110, 116] }, Value.string { data := #[104, 111, 116, 115, 112, 111, 116] }, Value.string { data := #[110, 101, 105, 103, 104, 98, 111, 114] }]) (.int .i64 2)).run Try.prog w = .ok (Value.string { data := #[99, 111, 109, 112, 108, 101, 109, 101, 110, 116] }) w := fun _ => by kernel_rfl
    have x3 : ∀ w, (Instr.index 68 (.agg #[Value.string { data := #[] }, Value.string { data := #[116, 114, 97, 110, 115, 112, 111, 115, 101] }, Value.string { data := #[99, 111, 109, 112, 108, 101, 109, 101, 110, 116] }, Value.string { data := #[104, 111, 116, 115, 112, 111, 116] }, Value.string { data := #[110, 101, 105, 103, 104, 98, 111, 114] }]) (.int .i64 3)).run Try.prog w = .ok (Value.string { data := #[104, 111, 116, 115, 112, 111, 116] }) w := fun _ => by kernel_rfl
    have x4 : ∀ w, (Instr.index 68 (.agg #[Value.string { data := #[] }, Value.string { data := #[116, 114, 97, 110, 115, 112, 111, 115, 101] }, Value.string { data := #[99, 111, 109, 112, 108, 101, 109, 101, 110, 116] }, Value.string { data := #[104, 111, 116, 115, 112, 111, 116] }, Value.string { data := #[110, 101, 105, 103, 104, 98, 111, 114] }]) (.int .i64 4)).run Try.prog w = .ok (Value.string { data := #[110, 101, 105, 103, 104, 98, 111, 114] }) w := fun _ => by kernel_rfl
    rcases hx with rfl | rfl | rfl | rfl
    all_goals
      go_wp2_with (go_at_call 43; refine (impl_inside _ _ _ _).mono ?_; rintro e w' ⟨rfl, rfl⟩)
      go_ret
      exact ⟨rfl, (by with_reducible repeat (first | assumption | exact bw_refl _ | apply bw_alloc | apply bw_drew | apply bw_drewN | refine bw_set _ ?_ (by omega) | refine bw_then ?_ (by assumption)))⟩
end Go.Proofs.Ytglajejmnhmcfaa
