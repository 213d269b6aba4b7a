/- Lemmas for laws of this seat, for all inputs: CpW Cp CpL GrS Mv StH StP Snd SndP MarkM MarkN Idle Run. -/
import Derived.Test.YteeebfeljjghhaaGreatH4
import Derived.Test.YteeebfeljjghhaaGreatH3
import Derived.ArgAppend
import Derived.Deep.Upon
import Derived.Test.YteeebfeljjghhaaGreatH5
/- Words on copies: an empty literal's block; append(lit, xs...) walked in order and inside a region that draws its order. -/
set_option linter.unusedVariables false
set_option linter.unusedSimpArgs false
namespace Go.Proofs.YteeebfeljjghhaaGreat
open Go.RowKit Go.Proofs.YteeebfeljjghhaaGreatW.PrintWords
open NoC

def Lit (e : Nat) (w : World) (g : Nat) : Prop := w.heap[g]? = some (.cells #[] e (0, 0))
theorem lit_new {e g : Nat} {w : World} (h : g = w.heap.size) : Lit e (w.alloc (.cells #[] e)) g := by subst h; exact blk_new w _
theorem lit_alloc {e g : Nat} {w : World} (o : Obj) (h : Lit e w g) : Lit e (w.alloc o) g := blk_alloc h o
theorem lit_drew {e g : Nat} {w : World} (h : Lit e w g) : Lit e w.drew g := h
structure Stp (w w1 : World) : Prop where
  h : Below w.heap.size w w1
theorem lit_stp {e g : Nat} {w w1 : World} (hs : Stp w w1) (h : Lit e w g) : Lit e w1 g := blk_below h hs.h
theorem R_lit {α : Type} (d : Kd α) {e g B : Nat} {w : World} (h : Lit e w g) (hB : B ≤ g) : d.R e w B (fun _ => True) (.slice (some ⟨g, 0, none⟩) 0 0) [] := by
  refine ⟨fun _ _ => trivial, [], ?_, Reps.none _ _⟩
  exact ⟨by simp, .inr ⟨g, 0, #[], rfl, hB, h, Nat.le_refl _, Nat.zero_le _, by simp, by simp⟩⟩
def At2 (g lo hi : Nat) (v : Value) : Prop := ∀ k, v.ownBlock = some k → k = g ∨ (lo ≤ k ∧ k < hi)
theorem apart_of {u v : Value} {p r : Nat → Prop} (hu : ∀ k, u.ownBlock = some k → p k) (hv : ∀ k, v.ownBlock = some k → r k) (h : ∀ k, p k → r k → False) : Apart u v := by
  cases e : u.ownBlock with
  | none => exact .inl e
  | some k =>
    right
    rw [e]
    intro e2
    exact h k (hu k e) (hv k e2.symm)
section
variable {ops : Array Oper} {rest : List Oper} {o : Oper} {a : Act} {Q : Exit → Act → World → Prop} {Kc : Act → World → Prop} {α : Type}
theorem run_copy (d : Kd α) {B : Nat} {W : World} (t ty e : TypeId) (z : Value) (bytes : Nat)
    (ht : Tryz.prog.underlying t = some (.slice e)) (hinfo : (Tryz.prog.info? e).map (fun i => (i.zero, i.size, i.bytes)) = some (some z, d.sz, bytes)) (hz : z.cells.size = d.sz) (hs0 : 0 < d.sz) (hb1 : bytes ≤ 1000)
    (hKM : ∀ (w1 : World) (b : Nat) (ok : Nat → Prop) x cs, d.K W x cs → d.M w1 b ok x cs) (hK1 : ∀ x cs, d.K W x cs → ∀ u ∈ cs, u.oneCell' = true)
    (g : Nat) (ys : List α) (A : Option Addr) (m c : Nat) (HL : Lit e W g) (hg : B ≤ g) (HR : d.C W A m ys) (hB : B ≤ W.heap.size) (hl : m ≤ 10000000) :
    ∃ v1 w1, (Builtin.append_ #[t, t] ty #[.slice (some ⟨g, 0, none⟩) 0 0, .slice A m c]).run Tryz.prog W = .ok v1 w1 ∧ d.R e w1 B (fun _ => True) v1 ys ∧ Below W.heap.size W w1 ∧ At2 g W.heap.size w1.heap.size v1 := by
  obtain ⟨i0, hi, hzz⟩ := Option.map_eq_some_iff.1 hinfo
  simp only [Prod.mk.injEq] at hzz
  obtain ⟨hz0, hz1, hz2⟩ := hzz
  have hm : ys.length = m := HR.1
  have nothing : ∀ (_ : m = 0), Src Tryz.prog i0.size t (.slice A m c) 0 [] W → ∃ v1 w1, (Builtin.append_ #[t, t] ty #[.slice (some ⟨g, 0, none⟩) 0 0, .slice A m c]).run Tryz.prog W = .ok v1 w1 ∧ d.R e w1 B (fun _ => True) v1 ys ∧ Below W.heap.size W w1 ∧ At2 g W.heap.size w1.heap.size v1 := by
    intro h0 hs
    obtain rfl : ys = [] := List.eq_nil_of_length_eq_zero (hm.trans h0)
    exact ⟨_, W, run_append_nothing W t t ty e i0 ht hi (some ⟨g, 0, none⟩) 0 0 (Nat.le_refl _) _ hs, R_lit d HL hg, Below.refl _ _, fun k hk => .inl (Option.some.inj hk).symm⟩
  rcases A with _ | ad
  · have h0 : m = 0 := by
      rcases Nat.eq_zero_or_pos m with h0 | h0
      · exact h0
      · obtain ⟨ad, h, _⟩ := HR.2.2 h0
        cases h
    subst h0
    exact nothing rfl (Src.ofNil W ht c)
  · by_cases h0 : m = 0
    · subst h0
      exact nothing rfl (Src.ofSlice W ht ad 0 c [] (by simp) (fun j u h => by simp at h) (fun u h => by cases h))
    · obtain ⟨news, hnr, hnc⟩ := ReadsRow.inner_ HR
      obtain ⟨v1, w1, hrun, hown, hgr⟩ := run_append_arg_grows (P := Tryz.prog) W t ty e i0 z d.sz bytes ht hi hz0 hz1 hz2 hz hs0 ⟨g, 0, none⟩ 0 0 [] (by simp) (fun j u h => by simp at h) ad m c news (by rw [hnr.1, hm]) hnc (by omega) (by simp only [maxLen]; omega) (by simp only [Nat.zero_add]; exact Nat.le_trans (Nat.mul_le_mul hl hb1) (by omega))
      have hb : Below W.heap.size W w1 := ⟨hgr.os, hgr.tape, hgr.output, hgr.size, fun i hi2 => hgr.block i hi2 (by simp)⟩
      rw [List.nil_append, Nat.zero_add] at hown
      refine ⟨v1, w1, hrun, ⟨fun _ _ => trivial, news, ?_, hnr.imp_ (fun p cs hp => hKM _ _ _ p cs hp)⟩, hb, fun k hk => .inr ⟨own_base hown k hk, own_lt hown k hk⟩⟩
      rw [hm]
      exact own_weaken hown hB
theorem copy_row (d : Kd α) {B : Nat} {W : World} (hgd : o.guard = none) (s x : Operand) (t e : TypeId) (z : Value) (bytes : Nat)
    (ho : o.op = .call { callee := .builtin .append, args := #[s, x], argTypes := #[t, t] })
    (ht : Tryz.prog.underlying t = some (.slice e)) (hinfo : (Tryz.prog.info? e).map (fun i => (i.zero, i.size, i.bytes)) = some (some z, d.sz, bytes)) (hz : z.cells.size = d.sz) (hs0 : 0 < d.sz) (hb1 : bytes ≤ 1000)
    (hKM : ∀ (w1 : World) (b : Nat) (ok : Nat → Prop) x cs, d.K W x cs → d.M w1 b ok x cs) (hK1 : ∀ x cs, d.K W x cs → ∀ u ∈ cs, u.oneCell' = true)
    (g : Nat) (ys : List α) (A : Option Addr) (m c : Nat) (hs : a.eval s = .slice (some ⟨g, 0, none⟩) 0 0) (hx : a.eval x = .slice A m c)
    (HL : Lit e W g) (hg : B ≤ g) (HR : d.C W A m ys) (hB : B ≤ W.heap.size) (hl : m ≤ 10000000)
    (h : ∀ v1 w1, d.R e w1 B (fun _ => True) v1 ys → Below W.heap.size W w1 → At2 g W.heap.size w1.heap.size v1 → wpList Tryz.prog ops Q rest (a.put o.dst v1) w1) : wpList Tryz.prog ops Q (o :: rest) a W := by
  obtain ⟨v1, w1, hr1, h1, h2, h3⟩ := run_copy d t o.type e z bytes ht hinfo hz hs0 hb1 hKM hK1 g ys A m c HL hg HR hB hl
  refine wpList_plain hgd fun K hK => ?_
  unfold Oper.wp execOp
  simp only [ho, resolve, invoke, builtin, Sem.run_bind, Sem.run_pure, Result.andThen_ok, List.map_toArray, List.map_cons, List.map_nil, hs, hx, hr1]
  exact hK _ _ (h v1 w1 h1 h2 h3)
theorem copy_row_step (d : Kd α) {B : Nat} {W : World} {Q' : Exit → Act → World → Prop} {E : Prop} (hw : Region.wanted o (yielded ops a.tmps) = true) (s x : Operand) (t e : TypeId) (z : Value) (bytes : Nat)
    (ho : o.op = .call { callee := .builtin .append, args := #[s, x], argTypes := #[t, t] })
    (ht : Tryz.prog.underlying t = some (.slice e)) (hinfo : (Tryz.prog.info? e).map (fun i => (i.zero, i.size, i.bytes)) = some (some z, d.sz, bytes)) (hz : z.cells.size = d.sz) (hs0 : 0 < d.sz) (hb1 : bytes ≤ 1000)
    (hKM : ∀ (w1 : World) (b : Nat) (ok : Nat → Prop) x cs, d.K W x cs → d.M w1 b ok x cs) (hK1 : ∀ x cs, d.K W x cs → ∀ u ∈ cs, u.oneCell' = true)
    (g : Nat) (ys : List α) (A : Option Addr) (m c : Nat) (hs : a.eval s = .slice (some ⟨g, 0, none⟩) 0 0) (hx : a.eval x = .slice A m c)
    (HL : Lit e W g) (hg : B ≤ g) (HR : d.C W A m ys) (hB : B ≤ W.heap.size) (hl : m ≤ 10000000)
    (h : ∀ v1 w1, d.R e w1 B (fun _ => True) v1 ys → Below W.heap.size W w1 → At2 g W.heap.size w1.heap.size v1 → Kc (a.put o.dst v1) w1) : if Region.wanted o (yielded ops a.tmps) = true then Oper.wp Tryz.prog o a W Kc Q' else E := by
  obtain ⟨v1, w1, hr1, h1, h2, h3⟩ := run_copy d t o.type e z bytes ht hinfo hz hs0 hb1 hKM hK1 g ys A m c HL hg HR hB hl
  rw [if_pos hw]
  unfold Oper.wp execOp
  simp only [ho, resolve, invoke, builtin, Sem.run_bind, Sem.run_pure, Result.andThen_ok, List.map_toArray, List.map_cons, List.map_nil, hs, hx, hr1]
  exact h v1 w1 h1 h2 h3
theorem KM_int {W : World} : ∀ (w1 : World) (b : Nat) (ok : Nat → Prop) (x : Int) cs, (Kd.int .i64).K W x cs → (Kd.int .i64).M w1 b ok x cs := fun _ _ _ _ _ h => h
theorem K1_int {W : World} : ∀ (x : Int) cs, (Kd.int .i64).K W x cs → ∀ u ∈ cs, u.oneCell' = true := fun _ _ h => (Kd.int .i64).K_one h
theorem KM_F {W : World} : ∀ (w1 : World) (b : Nat) (ok : Nat → Prop) (x : Flit) cs, kF.K W x cs → kF.M w1 b ok x cs := fun _ _ _ _ _ h => h
theorem K1_F {W : World} : ∀ (x : Flit) cs, kF.K W x cs → ∀ u ∈ cs, u.oneCell' = true := fun _ _ h => kF.K_one h
theorem copy_int {B : Nat} {W : World} (hgd : o.guard = none) (s x : Operand)
    (ho : o.op = .call { callee := .builtin .append, args := #[s, x], argTypes := #[24, 24] })
    (g : Nat) (ys : List Int) (A : Option Addr) (c : Nat) (hs : a.eval s = .slice (some ⟨g, 0, none⟩) 0 0) (hx : a.eval x = .slice A ys.length c)
    (HL : Lit 3 W g) (hg : B ≤ g) (HR : (Kd.int .i64).C W A ys.length ys) (hB : B ≤ W.heap.size) (hl : ys.length ≤ 10000000)
    (h : ∀ v1 w1, (Kd.int .i64).R 3 w1 B (fun _ => True) v1 ys → Below W.heap.size W w1 → At2 g W.heap.size w1.heap.size v1 → wpList Tryz.prog ops Q rest (a.put o.dst v1) w1) : wpList Tryz.prog ops Q (o :: rest) a W :=
  copy_row (Kd.int .i64) hgd s x 24 3 (.int .i64 0) 8 ho Tryz.underlying24 info_int rfl (by decide) (by omega) KM_int K1_int g ys A ys.length c hs hx HL hg HR hB hl h
theorem copyS_int {B : Nat} {W : World} {Q' : Exit → Act → World → Prop} {E : Prop} (hw : Region.wanted o (yielded ops a.tmps) = true) (s x : Operand)
    (ho : o.op = .call { callee := .builtin .append, args := #[s, x], argTypes := #[24, 24] })
    (g : Nat) (ys : List Int) (A : Option Addr) (c : Nat) (hs : a.eval s = .slice (some ⟨g, 0, none⟩) 0 0) (hx : a.eval x = .slice A ys.length c)
    (HL : Lit 3 W g) (hg : B ≤ g) (HR : (Kd.int .i64).C W A ys.length ys) (hB : B ≤ W.heap.size) (hl : ys.length ≤ 10000000)
    (h : ∀ v1 w1, (Kd.int .i64).R 3 w1 B (fun _ => True) v1 ys → Below W.heap.size W w1 → At2 g W.heap.size w1.heap.size v1 → Kc (a.put o.dst v1) w1) : if Region.wanted o (yielded ops a.tmps) = true then Oper.wp Tryz.prog o a W Kc Q' else E :=
  copy_row_step (Kd.int .i64) hw s x 24 3 (.int .i64 0) 8 ho Tryz.underlying24 info_int rfl (by decide) (by omega) KM_int K1_int g ys A ys.length c hs hx HL hg HR hB hl h
theorem copy_F {B : Nat} {W : World} (hgd : o.guard = none) (s x : Operand)
    (ho : o.op = .call { callee := .builtin .append, args := #[s, x], argTypes := #[100, 100] })
    (g : Nat) (ys : List Flit) (A : Option Addr) (c : Nat) (hs : a.eval s = .slice (some ⟨g, 0, none⟩) 0 0) (hx : a.eval x = .slice A ys.length c)
    (HL : Lit 103 W g) (hg : B ≤ g) (HR : kF.C W A ys.length ys) (hB : B ≤ W.heap.size) (hl : ys.length ≤ 10000000)
    (h : ∀ v1 w1, kF.R 103 w1 B (fun _ => True) v1 ys → Below W.heap.size W w1 → At2 g W.heap.size w1.heap.size v1 → wpList Tryz.prog ops Q rest (a.put o.dst v1) w1) : wpList Tryz.prog ops Q (o :: rest) a W :=
  copy_row kF hgd s x 100 103 (.agg #[.int .i64 0, .int .i64 0, .int .i64 0, .bool false, .bool false]) 32 ho Tryz.underlying100 info_F rfl (by decide) (by omega) KM_F K1_F g ys A ys.length c hs hx HL hg HR hB hl h
end
end Go.Proofs.YteeebfeljjghhaaGreat
/- Copies of tables, meshes and lists of flits: both sides; for all rows of at most two million entries. -/
set_option linter.unusedVariables false
set_option linter.unusedSimpArgs false
namespace Go.Proofs.YteeebfeljjghhaaGreat
open Go.RowKit Go.Proofs.YteeebfeljjghhaaGreatW.PrintWords
open NoC

theorem stp_refl (w : World) : Stp w w := ⟨Below.refl _ _⟩
theorem stp_drew {w W : World} (h : Stp w W) : Stp w W.drew := ⟨bw_drew h.h⟩
theorem stp_then {w W W' : World} (h : Stp w W) (k : Stp W W') : Stp w W' := ⟨bw_then h.h k.h⟩
theorem GotTab.at {w w' : World} {t : List Int} {e : Ending} (h : GotTab w w' t e) : ∃ A c, e = .returned (.agg #[.slice A t.length c]) ∧ Kd.R (Kd.int .i64) 3 w' w.heap.size (fun _ => True) (.slice A t.length c) t := by
  obtain ⟨v, rfl, hr⟩ := h
  obtain ⟨A, c, rfl⟩ := Kd.R_slice hr
  exact ⟨A, c, rfl, hr⟩
set_option maxHeartbeats 1000000 in
theorem impl_copyTable (t : List Int) (A : Option Addr) (c : Nat) (w : World) (hr : Kd.C (Kd.int .i64) w A t.length t) (hn : t.length ≤ 2097152) :
    Calls Tryz.prog 120 #[.agg #[.slice A t.length c]] w fun e w' => GotTab w w' t e ∧ Below w.heap.size w w' := by
  have R := Lib.hid hr
  clear hr
  go_enter Tryz.func120, Tryz.ntmps120
  go_wp2_with (at_builtin; (refine copy_int (B := ((w.alloc (.cells #[.slice A t.length c] 38)).alloc (.cells #[.slice none 0 0] 38)).heap.size) rfl (.tmp 3) (.tmp 5) rfl _ t A c rfl rfl (by with_reducible repeat (first | assumption | (refine lit_new ?_; first | done | rfl | (simp only [World.size_alloc, World.size_drew, World.size_setCell]; done)) | exact lit_new (by simp only [World.size_alloc, World.size_drew, World.size_setCell]) | refine lit_stp (by assumption) ?_ | refine lit_alloc _ ?_ | refine lit_drew ?_)) (by simp only [szs]; omega) (by exact Kd.C_below R.out bel) (by simp only [szs]; omega) (by omega) ?_; intro v1 w1 HO1 hb1 ht1; obtain ⟨A1, c1, rfl⟩ := Kd.R_slice HO1; obtain ⟨hc1, hf1, hz1⟩ := bcell hb1; (try simp only [szs] at hz1); have hb2 := (by first | exact bw_then hb2 hb1 | exact bw_then (bw_drewN _ hb2) hb1 | exact bw_then (bw_alloc _ hb2) hb1 | exact bw_then (bw_drew hb2) hb1 | exact bw_then HB hb1 | exact bw_then (bw_drewN _ HB) hb1 | exact bw_then (bw_alloc _ HB) hb1 | exact bw_then (bw_drew HB) hb1 | exact hb1); obtain ⟨hc2, hf2, hz2⟩ := bcell hb2; (try simp only [szs] at hz2); try (first | obtain ⟨hy1, hy2, hy3, hy4⟩ := lts4 hz2 | obtain ⟨hy1, hy2, hy3⟩ := lts3 hz2 | obtain ⟨hy1, hy2⟩ := lts2 hz2 | have hy1 := lts1 hz2); have hb9 := hb1))
  exact bodyPost_ret (v := .agg #[.slice A1 t.length c1]) (by simp [results, Tryz.results120, go_sem, *]) rfl ⟨⟨_, rfl, (by apply Kd.R_lower; (with_reducible repeat (first | exact HO1 | apply R_off | (apply R_belowC; assumption))); all_goals (first | omega | (simp only [szs]; omega)))⟩, bel⟩
set_option maxHeartbeats 1000000 in
theorem spec_l12Copy (t : List Int) (A : Option Addr) (c : Nat) (w : World) (hr : Kd.C (Kd.int .i64) w A t.length t) (hn : t.length ≤ 2097152) :
    Calls Tryz.prog 117 #[.agg #[.slice A t.length c]] w fun e w' => GotTab w w' t e ∧ Below w.heap.size w w' := by
  have R := Lib.hid hr
  clear hr
  go_enter Tryz.func117, Tryz.ntmps117
  go_wp2_with (at_builtin; (refine copy_int (B := ((w.alloc (.cells #[.slice A t.length c] 38)).alloc (.cells #[.slice none 0 0] 38)).heap.size) rfl (.tmp 3) (.tmp 5) rfl _ t A c rfl rfl (by with_reducible repeat (first | assumption | (refine lit_new ?_; first | done | rfl | (simp only [World.size_alloc, World.size_drew, World.size_setCell]; done)) | exact lit_new (by simp only [World.size_alloc, World.size_drew, World.size_setCell]) | refine lit_stp (by assumption) ?_ | refine lit_alloc _ ?_ | refine lit_drew ?_)) (by simp only [szs]; omega) (by exact Kd.C_below R.out bel) (by simp only [szs]; omega) (by omega) ?_; intro v1 w1 HO1 hb1 ht1; obtain ⟨A1, c1, rfl⟩ := Kd.R_slice HO1; obtain ⟨hc1, hf1, hz1⟩ := bcell hb1; (try simp only [szs] at hz1); have hb2 := (by first | exact bw_then hb2 hb1 | exact bw_then (bw_drewN _ hb2) hb1 | exact bw_then (bw_alloc _ hb2) hb1 | exact bw_then (bw_drew hb2) hb1 | exact bw_then HB hb1 | exact bw_then (bw_drewN _ HB) hb1 | exact bw_then (bw_alloc _ HB) hb1 | exact bw_then (bw_drew HB) hb1 | exact hb1); obtain ⟨hc2, hf2, hz2⟩ := bcell hb2; (try simp only [szs] at hz2); try (first | obtain ⟨hy1, hy2, hy3, hy4⟩ := lts4 hz2 | obtain ⟨hy1, hy2, hy3⟩ := lts3 hz2 | obtain ⟨hy1, hy2⟩ := lts2 hz2 | have hy1 := lts1 hz2); have hb9 := hb1))
  exact bodyPost_ret (v := .agg #[.slice A1 t.length c1]) (by simp [results, Tryz.results117, go_sem, *]) rfl ⟨⟨_, rfl, (by apply Kd.R_lower; (with_reducible repeat (first | exact HO1 | apply R_off | (apply R_belowC; assumption))); all_goals (first | omega | (simp only [szs]; omega)))⟩, bel⟩
set_option maxHeartbeats 2000000 in
theorem impl_copyMesh (m : Mesh) (A : Option Addr) (c : Nat) (w : World) (hr : Kd.C (Kd.int .i64) w A m.br.length m.br) (hn : m.br.length ≤ 2097152) :
    Calls Tryz.prog 86 #[.agg #[.int .i64 m.g.w, .int .i64 m.g.h, .slice A m.br.length c]] w fun e w' => GotMesh w w' m e ∧ Below w.heap.size w w' := by
  have R := Lib.hid hr
  clear hr
  have xx := (Box.new w w.heap.size #[.int .i64 m.g.w, .int .i64 m.g.h, .slice A m.br.length c] 37 rfl)
  have g0 : (w.alloc (.cells #[.int .i64 m.g.w, .int .i64 m.g.h, .slice A m.br.length c] 37)).cell? ⟨w.heap.size, 0, none⟩ = some (.int .i64 m.g.w) := xx.get 0
  have g1 : (w.alloc (.cells #[.int .i64 m.g.w, .int .i64 m.g.h, .slice A m.br.length c] 37)).cell? ⟨w.heap.size, 1, none⟩ = some (.int .i64 m.g.h) := xx.get 1
  have g2 : (w.alloc (.cells #[.int .i64 m.g.w, .int .i64 m.g.h, .slice A m.br.length c] 37)).cell? ⟨w.heap.size, 2, none⟩ = some (.slice A m.br.length c) := xx.get 2
  clear xx
  go_enter Tryz.func86, Tryz.ntmps86
  go_wp2_with fail
  go_region_held3 (fun w' => Below ((w.alloc (.cells #[.int .i64 m.g.w, .int .i64 m.g.h, .slice A m.br.length c] 37))).heap.size ((w.alloc (.cells #[.int .i64 m.g.w, .int .i64 m.g.h, .slice A m.br.length c] 37))) w' ∧ ∀ bq oq, bq < ((w.alloc (.cells #[.int .i64 m.g.w, .int .i64 m.g.h, .slice A m.br.length c] 37))).heap.size → w'.cell? ⟨bq, oq, none⟩ = ((w.alloc (.cells #[.int .i64 m.g.w, .int .i64 m.g.h, .slice A m.br.length c] 37))).cell? ⟨bq, oq, none⟩) (first | exact far_of bel) ( first | (refine copyS_int (B := ((w.alloc (.cells #[.int .i64 m.g.w, .int .i64 m.g.h, .slice A m.br.length c] 37)).alloc (.cells #[.int .i64 0, .int .i64 0, .slice none 0 0] 37)).heap.size) (by rfl) (.tmp 5) (.tmp 7) rfl _ m.br A c rfl rfl (by with_reducible repeat (first | assumption | (refine lit_new ?_; first | done | rfl | (simp only [World.size_alloc, World.size_drew, World.size_setCell]; done)) | exact lit_new (by simp only [World.size_alloc, World.size_drew, World.size_setCell]) | refine lit_stp (by assumption) ?_ | refine lit_alloc _ ?_ | refine lit_drew ?_)) (by simp only [szs]; omega) (by exact Kd.C_below R.out bel) (by simp only [szs]; omega) (by omega) ?_; intro v1 w1 HO1 hb1 ht1; obtain ⟨A1, c1, rfl⟩ := Kd.R_slice HO1; obtain ⟨hc1, hf1, hz1⟩ := bcell hb1; (try simp only [szs] at hz1); have hb2 := (by first | exact bw_then hb2 hb1 | exact bw_then (bw_drewN _ hb2) hb1 | exact bw_then (bw_alloc _ hb2) hb1 | exact bw_then (bw_drew hb2) hb1 | exact bw_then HB hb1 | exact bw_then (bw_drewN _ HB) hb1 | exact bw_then (bw_alloc _ HB) hb1 | exact bw_then (bw_drew HB) hb1 | exact hb1); obtain ⟨hc2, hf2, hz2⟩ := bcell hb2; (try simp only [szs] at hz2); try (first | obtain ⟨hy1, hy2, hy3, hy4⟩ := lts4 hz2 | obtain ⟨hy1, hy2, hy3⟩ := lts3 hz2 | obtain ⟨hy1, hy2⟩ := lts2 hz2 | have hy1 := lts1 hz2); have hb9 := hb1))
  all_goals go_wp2
  all_goals exact bodyPost_ret (v := .agg #[.int .i64 m.g.w, .int .i64 m.g.h, .slice A1 m.br.length c1]) (by simp [results, Tryz.results86, go_sem, *]) rfl ⟨⟨_, rfl, (by apply Kd.R_lower; (with_reducible repeat (first | exact HO1 | apply R_off | (apply R_belowC; assumption))); all_goals (first | omega | (simp only [szs]; omega)))⟩, bel⟩
set_option maxHeartbeats 2000000 in
theorem spec_l15Mesh (m : Mesh) (A : Option Addr) (c : Nat) (w : World) (hr : Kd.C (Kd.int .i64) w A m.br.length m.br) (hn : m.br.length ≤ 2097152) :
    Calls Tryz.prog 78 #[.agg #[.int .i64 m.g.w, .int .i64 m.g.h, .slice A m.br.length c]] w fun e w' => GotMesh w w' m e ∧ Below w.heap.size w w' := by
  have R := Lib.hid hr
  clear hr
  have xx := (Box.new w w.heap.size #[.int .i64 m.g.w, .int .i64 m.g.h, .slice A m.br.length c] 37 rfl)
  have g0 : (w.alloc (.cells #[.int .i64 m.g.w, .int .i64 m.g.h, .slice A m.br.length c] 37)).cell? ⟨w.heap.size, 0, none⟩ = some (.int .i64 m.g.w) := xx.get 0
  have g1 : (w.alloc (.cells #[.int .i64 m.g.w, .int .i64 m.g.h, .slice A m.br.length c] 37)).cell? ⟨w.heap.size, 1, none⟩ = some (.int .i64 m.g.h) := xx.get 1
  have g2 : (w.alloc (.cells #[.int .i64 m.g.w, .int .i64 m.g.h, .slice A m.br.length c] 37)).cell? ⟨w.heap.size, 2, none⟩ = some (.slice A m.br.length c) := xx.get 2
  clear xx
  go_enter Tryz.func78, Tryz.ntmps78
  go_wp2_with fail
  go_region_held3 (fun w' => Below ((w.alloc (.cells #[.int .i64 m.g.w, .int .i64 m.g.h, .slice A m.br.length c] 37))).heap.size ((w.alloc (.cells #[.int .i64 m.g.w, .int .i64 m.g.h, .slice A m.br.length c] 37))) w' ∧ ∀ bq oq, bq < ((w.alloc (.cells #[.int .i64 m.g.w, .int .i64 m.g.h, .slice A m.br.length c] 37))).heap.size → w'.cell? ⟨bq, oq, none⟩ = ((w.alloc (.cells #[.int .i64 m.g.w, .int .i64 m.g.h, .slice A m.br.length c] 37))).cell? ⟨bq, oq, none⟩) (first | exact far_of bel) ( first | (refine copyS_int (B := ((w.alloc (.cells #[.int .i64 m.g.w, .int .i64 m.g.h, .slice A m.br.length c] 37)).alloc (.cells #[.int .i64 0, .int .i64 0, .slice none 0 0] 37)).heap.size) (by rfl) (.tmp 5) (.tmp 7) rfl _ m.br A c rfl rfl (by with_reducible repeat (first | assumption | (refine lit_new ?_; first | done | rfl | (simp only [World.size_alloc, World.size_drew, World.size_setCell]; done)) | exact lit_new (by simp only [World.size_alloc, World.size_drew, World.size_setCell]) | refine lit_stp (by assumption) ?_ | refine lit_alloc _ ?_ | refine lit_drew ?_)) (by simp only [szs]; omega) (by exact Kd.C_below R.out bel) (by simp only [szs]; omega) (by omega) ?_; intro v1 w1 HO1 hb1 ht1; obtain ⟨A1, c1, rfl⟩ := Kd.R_slice HO1; obtain ⟨hc1, hf1, hz1⟩ := bcell hb1; (try simp only [szs] at hz1); have hb2 := (by first | exact bw_then hb2 hb1 | exact bw_then (bw_drewN _ hb2) hb1 | exact bw_then (bw_alloc _ hb2) hb1 | exact bw_then (bw_drew hb2) hb1 | exact bw_then HB hb1 | exact bw_then (bw_drewN _ HB) hb1 | exact bw_then (bw_alloc _ HB) hb1 | exact bw_then (bw_drew HB) hb1 | exact hb1); obtain ⟨hc2, hf2, hz2⟩ := bcell hb2; (try simp only [szs] at hz2); try (first | obtain ⟨hy1, hy2, hy3, hy4⟩ := lts4 hz2 | obtain ⟨hy1, hy2, hy3⟩ := lts3 hz2 | obtain ⟨hy1, hy2⟩ := lts2 hz2 | have hy1 := lts1 hz2); have hb9 := hb1))
  all_goals go_wp2
  all_goals exact bodyPost_ret (v := .agg #[.int .i64 m.g.w, .int .i64 m.g.h, .slice A1 m.br.length c1]) (by simp [results, Tryz.results78, go_sem, *]) rfl ⟨⟨_, rfl, (by apply Kd.R_lower; (with_reducible repeat (first | exact HO1 | apply R_off | (apply R_belowC; assumption))); all_goals (first | omega | (simp only [szs]; omega)))⟩, bel⟩
set_option maxHeartbeats 2000000 in
theorem impl_copyClasses (pa pb : List Int) (A B : Option Addr) (c d : Nat) (w : World) (hr : Kd.C (Kd.int .i64) w A pa.length pa) (hn : pa.length ≤ 2097152) (hs : Kd.C (Kd.int .i64) w B pb.length pb) (hm : pb.length ≤ 2097152) :
    Calls Tryz.prog 87 #[.agg #[.slice A pa.length c, .slice B pb.length d]] w fun e w' => GotCls w w' pa pb e ∧ Below w.heap.size w w' := by
  have R := Lib.hid hr
  have S := Lib.hid hs
  clear hr hs
  have xx := (Box.new w w.heap.size #[.slice A pa.length c, .slice B pb.length d] 40 rfl)
  have g0 : (w.alloc (.cells #[.slice A pa.length c, .slice B pb.length d] 40)).cell? ⟨w.heap.size, 0, none⟩ = some (.slice A pa.length c) := xx.get 0
  have g1 : (w.alloc (.cells #[.slice A pa.length c, .slice B pb.length d] 40)).cell? ⟨w.heap.size, 1, none⟩ = some (.slice B pb.length d) := xx.get 1
  clear xx
  go_enter Tryz.func87, Tryz.ntmps87
  go_wp2_with fail
  go_region_held3 (fun w' => Below ((w.alloc (.cells #[.slice A pa.length c, .slice B pb.length d] 40))).heap.size ((w.alloc (.cells #[.slice A pa.length c, .slice B pb.length d] 40))) w' ∧ ∀ bq oq, bq < ((w.alloc (.cells #[.slice A pa.length c, .slice B pb.length d] 40))).heap.size → w'.cell? ⟨bq, oq, none⟩ = ((w.alloc (.cells #[.slice A pa.length c, .slice B pb.length d] 40))).cell? ⟨bq, oq, none⟩) (first | exact far_of bel) ( first | (go_at_call_of 120 pa; refine (impl_copyTable pa A c _ (by exact Kd.C_below R.out bel) hn).mono ?_; rintro e wa ⟨hg1, hba⟩; obtain ⟨Aa, ca, rfl, HOA⟩ := hg1.at; have sa := bw_size hba; (try simp only [szs] at sa); have hb1 := hba; obtain ⟨hc1, hf1, hz1⟩ := bcell hb1; (try simp only [szs] at hz1); have hb2 := (by first | exact bw_then hb2 hb1 | exact bw_then (bw_drewN _ hb2) hb1 | exact bw_then (bw_alloc _ hb2) hb1 | exact bw_then (bw_drew hb2) hb1 | exact bw_then HB hb1 | exact bw_then (bw_drewN _ HB) hb1 | exact bw_then (bw_alloc _ HB) hb1 | exact bw_then (bw_drew HB) hb1 | exact hb1); obtain ⟨hc2, hf2, hz2⟩ := bcell hb2; (try simp only [szs] at hz2); try (first | obtain ⟨hy1, hy2, hy3, hy4⟩ := lts4 hz2 | obtain ⟨hy1, hy2, hy3⟩ := lts3 hz2 | obtain ⟨hy1, hy2⟩ := lts2 hz2 | have hy1 := lts1 hz2); have hb9 := hb1) | (go_at_call_of 120 pb; refine (impl_copyTable pb B d _ (by exact Kd.C_below S.out bel) hm).mono ?_; rintro e wb ⟨hg1, hbb⟩; obtain ⟨Ab, cb, rfl, HOB⟩ := hg1.at; have sb := bw_size hbb; (try simp only [szs] at sb); have hb1 := hbb; obtain ⟨hc1, hf1, hz1⟩ := bcell hb1; (try simp only [szs] at hz1); have hb2 := (by first | exact bw_then hb2 hb1 | exact bw_then (bw_drewN _ hb2) hb1 | exact bw_then (bw_alloc _ hb2) hb1 | exact bw_then (bw_drew hb2) hb1 | exact bw_then HB hb1 | exact bw_then (bw_drewN _ HB) hb1 | exact bw_then (bw_alloc _ HB) hb1 | exact bw_then (bw_drew HB) hb1 | exact hb1); obtain ⟨hc2, hf2, hz2⟩ := bcell hb2; (try simp only [szs] at hz2); try (first | obtain ⟨hy1, hy2, hy3, hy4⟩ := lts4 hz2 | obtain ⟨hy1, hy2, hy3⟩ := lts3 hz2 | obtain ⟨hy1, hy2⟩ := lts2 hz2 | have hy1 := lts1 hz2); have hb9 := hb1))
  all_goals go_wp2
  all_goals exact bodyPost_ret (v := .agg #[.slice Aa pa.length ca, .slice Ab pb.length cb]) (by simp [results, Tryz.results87, go_sem, *]) rfl ⟨⟨_, _, rfl, (by apply Kd.R_lower; (with_reducible repeat (first | exact HOA | apply R_off | (apply R_belowC; assumption))); all_goals (first | omega | (simp only [szs]; omega))), (by apply Kd.R_lower; (with_reducible repeat (first | exact HOB | apply R_off | (apply R_belowC; assumption))); all_goals (first | omega | (simp only [szs]; omega))), R_apart HOA HOB (by first | omega | (simp only [szs]; omega))⟩, bel⟩
set_option maxHeartbeats 2000000 in
theorem spec_l15Classes (pa pb : List Int) (A B : Option Addr) (c d : Nat) (w : World) (hr : Kd.C (Kd.int .i64) w A pa.length pa) (hn : pa.length ≤ 2097152) (hs : Kd.C (Kd.int .i64) w B pb.length pb) (hm : pb.length ≤ 2097152) :
    Calls Tryz.prog 79 #[.agg #[.slice A pa.length c, .slice B pb.length d]] w fun e w' => GotCls w w' pa pb e ∧ Below w.heap.size w w' := by
  have R := Lib.hid hr
  have S := Lib.hid hs
  clear hr hs
  have xx := (Box.new w w.heap.size #[.slice A pa.length c, .slice B pb.length d] 40 rfl)
  have g0 : (w.alloc (.cells #[.slice A pa.length c, .slice B pb.length d] 40)).cell? ⟨w.heap.size, 0, none⟩ = some (.slice A pa.length c) := xx.get 0
  have g1 : (w.alloc (.cells #[.slice A pa.length c, .slice B pb.length d] 40)).cell? ⟨w.heap.size, 1, none⟩ = some (.slice B pb.length d) := xx.get 1
  clear xx
  go_enter Tryz.func79, Tryz.ntmps79
  go_wp2_with fail
  go_region_held3 (fun w' => Below ((w.alloc (.cells #[.slice A pa.length c, .slice B pb.length d] 40))).heap.size ((w.alloc (.cells #[.slice A pa.length c, .slice B pb.length d] 40))) w' ∧ ∀ bq oq, bq < ((w.alloc (.cells #[.slice A pa.length c, .slice B pb.length d] 40))).heap.size → w'.cell? ⟨bq, oq, none⟩ = ((w.alloc (.cells #[.slice A pa.length c, .slice B pb.length d] 40))).cell? ⟨bq, oq, none⟩) (first | exact far_of bel) ( first | (go_at_call_of 117 pa; refine (spec_l12Copy pa A c _ (by exact Kd.C_below R.out bel) hn).mono ?_; rintro e wa ⟨hg1, hba⟩; obtain ⟨Aa, ca, rfl, HOA⟩ := hg1.at; have sa := bw_size hba; (try simp only [szs] at sa); have hb1 := hba; obtain ⟨hc1, hf1, hz1⟩ := bcell hb1; (try simp only [szs] at hz1); have hb2 := (by first | exact bw_then hb2 hb1 | exact bw_then (bw_drewN _ hb2) hb1 | exact bw_then (bw_alloc _ hb2) hb1 | exact bw_then (bw_drew hb2) hb1 | exact bw_then HB hb1 | exact bw_then (bw_drewN _ HB) hb1 | exact bw_then (bw_alloc _ HB) hb1 | exact bw_then (bw_drew HB) hb1 | exact hb1); obtain ⟨hc2, hf2, hz2⟩ := bcell hb2; (try simp only [szs] at hz2); try (first | obtain ⟨hy1, hy2, hy3, hy4⟩ := lts4 hz2 | obtain ⟨hy1, hy2, hy3⟩ := lts3 hz2 | obtain ⟨hy1, hy2⟩ := lts2 hz2 | have hy1 := lts1 hz2); have hb9 := hb1) | (go_at_call_of 117 pb; refine (spec_l12Copy pb B d _ (by exact Kd.C_below S.out bel) hm).mono ?_; rintro e wb ⟨hg1, hbb⟩; obtain ⟨Ab, cb, rfl, HOB⟩ := hg1.at; have sb := bw_size hbb; (try simp only [szs] at sb); have hb1 := hbb; obtain ⟨hc1, hf1, hz1⟩ := bcell hb1; (try simp only [szs] at hz1); have hb2 := (by first | exact bw_then hb2 hb1 | exact bw_then (bw_drewN _ hb2) hb1 | exact bw_then (bw_alloc _ hb2) hb1 | exact bw_then (bw_drew hb2) hb1 | exact bw_then HB hb1 | exact bw_then (bw_drewN _ HB) hb1 | exact bw_then (bw_alloc _ HB) hb1 | exact bw_then (bw_drew HB) hb1 | exact hb1); obtain ⟨hc2, hf2, hz2⟩ := bcell hb2; (try simp only [szs] at hz2); try (first | obtain ⟨hy1, hy2, hy3, hy4⟩ := lts4 hz2 | obtain ⟨hy1, hy2, hy3⟩ := lts3 hz2 | obtain ⟨hy1, hy2⟩ := lts2 hz2 | have hy1 := lts1 hz2); have hb9 := hb1))
  all_goals go_wp2
  all_goals exact bodyPost_ret (v := .agg #[.slice Aa pa.length ca, .slice Ab pb.length cb]) (by simp [results, Tryz.results79, go_sem, *]) rfl ⟨⟨_, _, rfl, (by apply Kd.R_lower; (with_reducible repeat (first | exact HOA | apply R_off | (apply R_belowC; assumption))); all_goals (first | omega | (simp only [szs]; omega))), (by apply Kd.R_lower; (with_reducible repeat (first | exact HOB | apply R_off | (apply R_belowC; assumption))); all_goals (first | omega | (simp only [szs]; omega))), R_apart HOA HOB (by first | omega | (simp only [szs]; omega))⟩, bel⟩
end Go.Proofs.YteeebfeljjghhaaGreat
/- Copies of lists of rows of flits: both sides; for all lists of at most two million rows of at most two million flits. -/
set_option linter.unusedVariables false
set_option linter.unusedSimpArgs false
namespace Go.Proofs.YteeebfeljjghhaaGreat
open Go.RowKit Go.Proofs.YteeebfeljjghhaaGreatW.PrintWords
open NoC

theorem own_lit0 {e g B sz : Nat} {w : World} (h : Lit e w g) (hB : B ≤ g) : w.ownsRow B e sz (.slice (some ⟨g, 0, none⟩) 0 0) 0 [] :=
  ⟨by simp, .inr ⟨g, 0, #[], rfl, hB, h, Nat.le_refl _, Nat.zero_le _, by simp, by simp⟩⟩
theorem FR.nil (w : World) (lo : Nat) : FR w lo [] [] := ⟨rfl, fun i h => absurd h (Nat.not_lt_zero _), fun i j _ h => absurd h (Nat.not_lt_zero _)⟩
theorem FR.snoc {w : World} {lo : Nat} {vs : List Value} {l : List (List Flit)} {u : Value} {y : List Flit} (h : FR w lo vs l) (hu : kF.R 103 w lo (fun _ => True) u y) (ha : ∀ i : Nat, i < l.length → Apart (vr vs i) u) : FR w lo (vs ++ [u]) (l ++ [y]) := by
  have hl := h.len
  have e1 : ∀ i : Nat, i < l.length → vr (vs ++ [u]) i = vr vs i := fun i hi => vr_left (by omega)
  have e2 : vr (vs ++ [u]) l.length = u := by
    have := vr_right (a := vs) (b := [u]) (i := 0)
    rw [Nat.add_zero, hl] at this
    exact this
  refine ⟨by simp [hl], fun i hi => ?_, fun i j hij hj => ?_⟩
  · rw [List.length_append, List.length_singleton] at hi
    by_cases e : i < l.length
    · rw [e1 i e, rl_left e]
      exact h.row i e
    · obtain rfl : i = l.length := by omega
      rw [e2]
      have := rl_right (a := l) (b := [y]) (i := 0)
      rw [Nat.add_zero] at this
      rw [this]
      exact hu
  · rw [List.length_append, List.length_singleton] at hj
    by_cases e : j < l.length
    · rw [e1 i (by omega), e1 j e]
      exact h.ap i j hij e
    · obtain rfl : j = l.length := by omega
      rw [e2, e1 i hij]
      exact ha i hij
theorem FR.other {w w1 : World} {lo base n : Nat} {vs us : List Value} {l : List (List Flit)} {v : Value} (h : FR w lo vs l) (ho : w.ownsRow base 100 1 v n us) (hg : w.grownBy w1 v.ownBlock) : FR w1 lo vs l :=
  ⟨h.len, fun i hi => by obtain ⟨inner, hin⟩ := Kd.R_own (h.row i hi); exact R_grownF (h.row i hi) hg (own_type_ne hin ho (by decide)), h.ap⟩
theorem RF_other {w w1 : World} {lo base n : Nat} {us : List Value} {u : Value} {y : List Flit} {v : Value} (h : kF.R 103 w lo (fun _ => True) u y) (ho : w.ownsRow base 100 1 v n us) (hg : w.grownBy w1 v.ownBlock) : kF.R 103 w1 lo (fun _ => True) u y := by
  obtain ⟨inner, hin⟩ := Kd.R_own h
  exact R_grownF h hg (own_type_ne hin ho (by decide))
def GotOX (w w' : World) (l : List (List Flit)) (e : Ending) : Prop := ∃ A c vs, e = .returned (.slice A l.length c) ∧ w'.ownsRow w.heap.size 100 1 (.slice A l.length c) l.length vs ∧ FR w' w.heap.size vs l
theorem take_snocB (l : List (List Flit)) (k : Nat) (hk : k < l.length) : l.take (k + 1) = l.take k ++ [rl l k] := by
  have : rl l (k : Int) = l[k] := by simp [rl, List.getD_eq_getElem?_getD, hk]
  rw [this, List.take_succ_eq_append_getElem hk]
section
variable {ops : Array Oper} {rest : List Oper} {o : Oper} {a : Act} {Q : Exit → Act → World → Prop}
theorem app_row {B : Nat} {W0 W : World} (hgd : o.guard = none) (s x : Operand)
    (ho : o.op = .call { callee := .builtin .append, args := #[s, x], argTypes := #[41, 41] })
    (v u : Value) (vs : List Value) (l : List (List Flit)) (y : List Flit) (hs : a.eval s = v) (hx : a.eval x = .slice (some ⟨W.heap.size, 0, none⟩) 1 1) (h1 : u.oneCell' = true)
    (HO : W.ownsRow B 100 1 v vs.length vs) (HF : FR W B vs l) (HU : kF.R 103 W B (fun _ => True) u y) (ha : ∀ i : Nat, i < l.length → Apart (vr vs i) u)
    (HB : Below B W0 W) (hB : B ≤ W.heap.size) (hl : vs.length ≤ 10000000)
    (h : ∀ v1 w1, w1.ownsRow B 100 1 v1 (vs ++ [u]).length (vs ++ [u]) → FR w1 B (vs ++ [u]) (l ++ [y]) → Below B W0 w1 → wpList Tryz.prog ops Q rest (a.put o.dst v1) w1) : wpList Tryz.prog ops Q (o :: rest) a (W.alloc (.cells #[u] 100)) := by
  refine print_append (P := Tryz.prog) (w0 := W0) B hgd s x 41 100 (.slice none 0 0) 24 ho Tryz.underlying41 info_B rfl (by omega) v vs u hs hx h1 HO HB hB (by omega) ?_
  intro v1 w1 hown hb hg hat
  exact h v1 w1 hown ((HF.other HO hg).snoc (RF_other HU HO hg) ha) hb
end
set_option maxHeartbeats 2000000 in
set_option maxRecDepth 100000 in
theorem impl_copyLists (l : List (List Flit)) (A : Option Addr) (c : Nat) (w : World) (hr : (kB 103).C w A l.length l) (hn : l.length ≤ 2097152) (hm : Hid (∀ x ∈ l, x.length ≤ 2097152)) :
    Calls Tryz.prog 88 #[.slice A l.length c] w fun e w' => GotOX w w' l e ∧ Below w.heap.size w w' := by
  go_enter Tryz.func88, Tryz.ntmps88
  go_wp2
  go_loopw [3, 9] (fun v i wr => ∃ vs : List Value, i = .int .i64 vs.length ∧ vs.length ≤ l.length ∧ Hid (wr.ownsRow w.heap.size 100 1 v vs.length vs) ∧ Hid (FR wr w.heap.size vs (l.take vs.length)) ∧ Below w.heap.size w wr) (fun _ i _ => l.length - (intOf i).toNat)
  case atStart => exact ⟨[], rfl, Nat.zero_le _, Lib.hid (own_lit0 (lit_new rfl) (Nat.le_refl _)), Lib.hid (FR.nil _ _), bel⟩
  case round =>
    obtain ⟨vs, rfl, hk, HO, HF, HB⟩ := hrel
    obtain ⟨Ao, co, rfl⟩ := own_slice HO.out
    have hzr := bw_size HB
    by_cases hlt : vs.length < l.length
    · have i0 : (vs.length : Int) < (l.length : Int) := by omega
      have k0 : (0 : Int) ≤ (vs.length : Int) := by omega
      obtain ⟨b, off, rfl, hb, Ai, ci, p0, hle, hCi⟩ := rdB_at (Kd.C_below hr HB) vs.length hlt
      have hki := hm.out _ (rl_mem hlt)
      have HT := Lib.hid (take_snocB l vs.length hlt)
      have HW : Hid (∀ i : Nat, i < (l.take vs.length).length → Within (vr vs i) w.heap.size wr.heap.size) := Lib.hid (fun i hi => within_R (HF.out.row i hi))
      go_wp2_with (first | (at_builtin; refine copy_F (B := w.heap.size) rfl (.tmp 14) (.tmp 15) rfl _ (rl l vs.length) Ai ci rfl rfl (by with_reducible repeat (first | assumption | (refine lit_new ?_; first | done | rfl | (simp only [World.size_alloc, World.size_drew, World.size_setCell]; done)) | exact lit_new (by simp only [World.size_alloc, World.size_drew, World.size_setCell]) | refine lit_stp (by assumption) ?_ | refine lit_alloc _ ?_ | refine lit_drew ?_)) (by first | omega | (simp only [szs]; omega)) (by exact Kd.C_below hCi bel) (by first | omega | (simp only [szs]; omega)) (by omega) ?_; intro v1 w1 HO1 hb1 ht1; obtain ⟨A1, c1, rfl⟩ := Kd.R_slice HO1; have hz1 := bw_size hb1; (try simp only [szs] at hz1); have HT1 := Lib.hid ht1; clear ht1) | (at_builtin; refine app_row (W0 := w) rfl (.tmp 13) (.tmp 17) rfl _ _ vs (l.take vs.length) (rl l vs.length) rfl (by first | rfl | exact congrArg (fun z => Value.slice (some ⟨z, 0, none⟩) 1 1) (World.size_alloc _ _).symm) rfl (by exact pw_own_below HO.out bel) (by exact HF.out.below bel) HO1 (fun i hi => apart_of (HW.out i hi) HT1.out (fun k => by (try simp only [szs]); omega)) bel (by first | omega | (simp only [szs]; omega)) (by omega) ?_; intro v2 w2 HO2 HF2 HB2))
      go_roundw
      case rel => exact ⟨vs ++ [.slice A1 (rl l vs.length).length c1], by rw [List.length_append, List.length_singleton]; go_num, by simp; omega, Lib.hid HO2, Lib.hid (by rw [List.length_append, List.length_singleton, HT.out]; exact HF2), HB2⟩
      case measure => simp [intOf]; omega
    · have e : vs.length = l.length := by omega
      have HE := Lib.hid e
      have i0 : ¬ (vs.length : Int) < (l.length : Int) := by omega
      clear e
      go_wp2
      have hF := HF.out
      have hO := HO.out
      rw [HE.out, List.take_length] at hF
      go_ret
      refine ⟨⟨Ao, co, vs, by rw [HE.out]; rfl, by rw [HE.out] at hO; exact hO, hF⟩, HB⟩
set_option maxHeartbeats 2000000 in
set_option maxRecDepth 100000 in
theorem spec_l15Lists (l : List (List Flit)) (A : Option Addr) (c : Nat) (w : World) (hr : (kB 103).C w A l.length l) (hn : l.length ≤ 2097152) (hm : Hid (∀ x ∈ l, x.length ≤ 2097152)) :
    Calls Tryz.prog 80 #[.slice A l.length c] w fun e w' => GotOX w w' l e ∧ Below w.heap.size w w' := by
  go_enter Tryz.func80, Tryz.ntmps80
  go_wp2
  go_loopw [3, 4] (fun v i wr => ∃ vs : List Value, i = .int .i64 vs.length ∧ vs.length ≤ l.length ∧ Hid (wr.ownsRow w.heap.size 100 1 v vs.length vs) ∧ Hid (FR wr w.heap.size vs (l.take vs.length)) ∧ Below w.heap.size w wr) (fun _ i _ => l.length - (intOf i).toNat)
  case atStart => exact ⟨[], rfl, Nat.zero_le _, Lib.hid (own_lit0 (lit_new rfl) (Nat.le_refl _)), Lib.hid (FR.nil _ _), bel⟩
  case round =>
    obtain ⟨vs, rfl, hk, HO, HF, HB⟩ := hrel
    obtain ⟨Ao, co, rfl⟩ := own_slice HO.out
    have hzr := bw_size HB
    by_cases hlt : vs.length < l.length
    · have i0 : (vs.length : Int) < (l.length : Int) := by omega
      have k0 : (0 : Int) ≤ (vs.length : Int) := by omega
      obtain ⟨b, off, rfl, hb, Ai, ci, p0, hle, hCi⟩ := rdB_at (Kd.C_below hr HB) vs.length hlt
      have hki := hm.out _ (rl_mem hlt)
      have HT := Lib.hid (take_snocB l vs.length hlt)
      have HW : Hid (∀ i : Nat, i < (l.take vs.length).length → Within (vr vs i) w.heap.size wr.heap.size) := Lib.hid (fun i hi => within_R (HF.out.row i hi))
      go_wp2_with (first | (at_builtin; refine copy_F (B := w.heap.size) rfl (.tmp 13) (.tmp 17) rfl _ (rl l vs.length) Ai ci rfl rfl (by with_reducible repeat (first | assumption | (refine lit_new ?_; first | done | rfl | (simp only [World.size_alloc, World.size_drew, World.size_setCell]; done)) | exact lit_new (by simp only [World.size_alloc, World.size_drew, World.size_setCell]) | refine lit_stp (by assumption) ?_ | refine lit_alloc _ ?_ | refine lit_drew ?_)) (by first | omega | (simp only [szs]; omega)) (by exact Kd.C_below hCi bel) (by first | omega | (simp only [szs]; omega)) (by omega) ?_; intro v1 w1 HO1 hb1 ht1; obtain ⟨A1, c1, rfl⟩ := Kd.R_slice HO1; have hz1 := bw_size hb1; (try simp only [szs] at hz1); have HT1 := Lib.hid ht1; clear ht1) | (at_builtin; refine app_row (W0 := w) rfl (.tmp 12) (.tmp 19) rfl _ _ vs (l.take vs.length) (rl l vs.length) rfl (by first | rfl | exact congrArg (fun z => Value.slice (some ⟨z, 0, none⟩) 1 1) (World.size_alloc _ _).symm) rfl (by exact pw_own_below HO.out bel) (by exact HF.out.below bel) HO1 (fun i hi => apart_of (HW.out i hi) HT1.out (fun k => by (try simp only [szs]); omega)) bel (by first | omega | (simp only [szs]; omega)) (by omega) ?_; intro v2 w2 HO2 HF2 HB2))
      go_roundw
      case rel => exact ⟨vs ++ [.slice A1 (rl l vs.length).length c1], by rw [List.length_append, List.length_singleton]; go_num, by simp; omega, Lib.hid HO2, Lib.hid (by rw [List.length_append, List.length_singleton, HT.out]; exact HF2), HB2⟩
      case measure => simp [intOf]; omega
    · have e : vs.length = l.length := by omega
      have HE := Lib.hid e
      have i0 : ¬ (vs.length : Int) < (l.length : Int) := by omega
      clear e
      go_wp2
      have hF := HF.out
      have hO := HO.out
      rw [HE.out, List.take_length] at hF
      go_ret
      refine ⟨⟨Ao, co, vs, by rw [HE.out]; rfl, by rw [HE.out] at hO; exact hO, hF⟩, HB⟩
end Go.Proofs.YteeebfeljjghhaaGreat
/- Grants of a valid network: the reference's side. -/
set_option linter.unusedVariables false
set_option linter.unusedSimpArgs false
namespace Go.Proofs.YteeebfeljjghhaaGreat
open Go.RowKit Go.Proofs.YteeebfeljjghhaaGreatW.PrintWords
open NoC

end Go.Proofs.YteeebfeljjghhaaGreat
/- Moves of a network: both sides. -/
set_option linter.unusedVariables false
set_option linter.unusedSimpArgs false
namespace Go.Proofs.YteeebfeljjghhaaGreat
open Go.RowKit Go.Proofs.YteeebfeljjghhaaGreatW.PrintWords
open NoC

end Go.Proofs.YteeebfeljjghhaaGreat
/- What the walks of a step use: appends of flits, grants' boxes, the rows' cells, lengths. -/
set_option linter.unusedVariables false
set_option linter.unusedSimpArgs false
namespace Go.Proofs.YteeebfeljjghhaaGreat
open Go.RowKit Go.Proofs.YteeebfeljjghhaaGreatW.PrintWords
open NoC

section
variable {ops : Array Oper} {rest : List Oper} {o : Oper} {a : Act} {Q : Exit → Act → World → Prop}
theorem app_Fg {B : Nat} {W : World} (hgd : o.guard = none) (s x : Operand)
    (ho : o.op = .call { callee := .builtin .append, args := #[s, x], argTypes := #[100, 100] })
    (v : Value) (xs : List Flit) (q : Flit) (hs : a.eval s = v) (hx : a.eval x = .slice (some ⟨W.heap.size, 0, none⟩) 1 1)
    (HO : kF.R 103 W B (fun _ => True) v xs) (hB : B ≤ W.heap.size) (hl : xs.length ≤ 100000000)
    (h : ∀ v1 w1, kF.R 103 w1 B (fun _ => True) v1 (xs ++ [q]) → W.grownBy w1 v.ownBlock → Anew W v1 v → wpList Tryz.prog ops Q rest (a.put o.dst v1) w1) :
    wpList Tryz.prog ops Q (o :: rest) a (W.alloc (.cells #[.int .i64 q.pk, .int .i64 q.dst, .int .i64 q.cls, .bool q.head, .bool q.tail] 103)) :=
  Kd.R_append (P := Tryz.prog) kF (w0 := W) B hgd s x 100 103 (.agg #[.int .i64 0, .int .i64 0, .int .i64 0, .bool false, .bool false]) 32 ho Tryz.underlying100 info_F rfl (by decide) (by omega) v xs q (fCells q) (fun _ => True) (fun _ => False) hs hx rfl (fun _ h => h.elim) (fun _ _ => trivial) HO (Below.refl _ _) hB (by omega) (fun v1 w1 h1 _ h3 h4 => h v1 w1 h1 h3 (.inr h4))
end
structure Lens (n x : Net) : Prop where
  b : x.bufs.length = n.bufs.length
  o : x.owners.length = n.owners.length
  t : x.turns.length = n.turns.length
  s : x.srcs.length = n.srcs.length
  a : x.arrs.length = n.arrs.length
theorem Lens.push {n x : Net} (h : Lens n x) (m : Net) (g : Grant) : Lens n (pushG m x g) := by
  unfold pushG
  split <;> exact ⟨by simp [h.b], by simp [h.o], by simp [h.t], by simp [h.s], by simp [h.a]⟩
def GB (w : World) (b : Nat) (g : Grant) : Prop := w.heap[b]? = some (.cells #[.int .i64 g.node, .int .i64 g.port, .int .i64 g.input] 108 (0, 0))
theorem GB.below {w w1 : World} {b : Nat} {g : Grant} (h : GB w b g) (hb : Below w.heap.size w w1) : GB w1 b g := blk_below h hb
theorem GB.far {w : World} {b c t : Nat} {g : Grant} (h : GB w b g) (hb : BlkT w c t) (ht : 108 ≠ t) (j : Nat) (u : Value) : GB (w.setCell ⟨c, j, none⟩ u) b g := by
  obtain ⟨cs, hc⟩ := hb
  exact blk_far (p := ⟨c, j, none⟩) h (blk_ne h hc ht) u
theorem GB.grown {w w1 : World} {b lo : Nat} {g : Grant} {v : Value} {y : List Flit} (h : GB w b g) (hg : w.grownBy w1 v.ownBlock) (hr : kF.R 103 w lo (fun _ => True) v y) : GB w1 b g := by
  obtain ⟨inner, hin⟩ := Kd.R_own hr
  exact blk_grown h hg (own_ne hin h (by decide))
theorem GB.cells {w : World} {b : Nat} {g : Grant} (h : GB w b g) : w.cell? ⟨b, 0, none⟩ = some (.int .i64 g.node) ∧ w.cell? ⟨b, 1, none⟩ = some (.int .i64 g.port) ∧ w.cell? ⟨b, 2, none⟩ = some (.int .i64 g.input) ∧ b < w.heap.size := ⟨blk_cell h 0, blk_cell h 1, blk_cell h 2, blk_lt h⟩
theorem BlkT.grown {w w1 : World} {g lo : Nat} {v : Value} {y : List Flit} (h : BlkT w g 100) (hg : w.grownBy w1 v.ownBlock) (hr : kF.R 103 w lo (fun _ => True) v y) : BlkT w1 g 100 := by
  obtain ⟨cs, hc⟩ := h
  obtain ⟨inner, hin⟩ := Kd.R_own hr
  exact ⟨cs, blk_grown hc hg (own_ne hin hc (by decide))⟩
section
variable {ops : Array Oper} {o : Oper} {a : Act} {Kc : Act → World → Prop} {Q' : Exit → Act → World → Prop}
end
theorem Lens.enter {n m : Net} : ∀ (ks : List Int) (x : Net), Lens n x → Lens n (enterL m x ks) := by
  intro ks
  induction ks with
  | nil => intro x h; exact h
  | cons a ks ih => intro x h; exact ih _ ⟨by simp [enterB, h.b], h.o, h.t, by simp [enterB, h.s], h.a⟩
theorem own_facts7 {w : World} {lo g j c len : Nat} {x : Net} {q : NA} {v4 u7 v8 : List Value} {A : Option Addr} (h : NX w lo x q v4 u7 v8) (ea : q.a7 = some ⟨g, 0, none⟩) (hj : j < x.srcs.length) (hv : vr u7 j = .slice A len c) : w.cell? ⟨g, j, none⟩ = some (.slice A len c) ∧ w.frozen? ⟨g, j, none⟩ = false := by
  have h4 := h.srcs
  rw [ea] at h4
  have := own_cell h4 hj
  rw [hv] at this
  exact this
theorem lens_ok {n : Net} (ok : netOk n = true) : 0 < n.bufs.length ∧ 0 < n.owners.length ∧ 0 < n.turns.length ∧ 0 < n.srcs.length ∧ 0 < n.arrs.length := by
  obtain ⟨h0, h1, h2, h3, h4, h5, _⟩ := netOk_parts ok
  have := sized_count (classesOk_sized h0).1
  omega
end Go.Proofs.YteeebfeljjghhaaGreat
/- A step keeps a network valid; a network without moves only grows older; no program, no memory. -/
set_option linter.unusedVariables false
set_option linter.unusedSimpArgs false
namespace NoC
end NoC
/- The flits of a packet: both sides; and what a sent packet makes of a network. For all packets. -/
set_option linter.unusedVariables false
set_option linter.unusedSimpArgs false
namespace Go.Proofs.YteeebfeljjghhaaGreat
open Go.RowKit Go.Proofs.YteeebfeljjghhaaGreatW.PrintWords
open NoC

def flitAt (p : Packet) (k : Nat) : Flit := ⟨p.id, p.dst, p.cls, (k : Int) == 0, (k : Int) == p.len - 1⟩
def flitsTo (p : Packet) (k : Nat) : List Flit := (List.range k).map (flitAt p)
theorem flitsTo_succ (p : Packet) (k : Nat) : flitsTo p (k + 1) = flitsTo p k ++ [flitAt p k] := by simp [flitsTo, List.range_succ]
theorem flitsTo_len (p : Packet) (k : Nat) : (flitsTo p k).length = k := by simp [flitsTo]
theorem flitsOf_yes {g : Grid} {p : Packet} (h : packetOk g p = true) : flitsOf g p = flitsTo p p.len.toNat := by
  unfold flitsOf flitsTo
  rw [if_pos h]
  apply List.map_congr_left
  intro i _
  have e : (i == 0) = ((i : Int) == 0) := by
    by_cases h0 : i = 0
    · subst h0; rfl
    · rw [beq_eq_false_iff_ne.2 h0, beq_eq_false_iff_ne.2 (by omega)]
  unfold flitAt
  rw [e]
theorem flitsOf_no {g : Grid} {p : Packet} (h : packetOk g p = false) : flitsOf g p = [] := by
  unfold flitsOf
  rw [if_neg (by simp [h])]
theorem packet_parts {g : Grid} {p : Packet} (h : packetOk g p = true) : isNode g p.src = true ∧ isNode g p.dst = true ∧ 0 ≤ p.cls ∧ p.cls ≤ 1 ∧ 1 ≤ p.len ∧ p.len ≤ 5 := by
  simp only [packetOk, Bool.and_eq_true] at h
  have h1 := inside_iff.1 h.1.2
  have h2 := inside_iff.1 h.2
  exact ⟨h.1.1.1.1.2, h.1.1.1.2, h1.1, h1.2, h2.1, h2.2⟩
theorem flitsOf_len {g : Grid} {p : Packet} (h : packetOk g p = true) : ((flitsOf g p).length : Int) = p.len := by
  rw [flitsOf_yes h, flitsTo_len]
  have := packet_parts h
  omega
set_option maxHeartbeats 4000000 in
theorem impl_FlitsOf (g : Grid) (p : Packet) (w : World) : Calls Tryz.prog 113 #[.agg #[.int .i64 g.w, .int .i64 g.h], .agg #[.int .i64 p.id, .int .i64 p.src, .int .i64 p.dst, .int .i64 p.cls, .int .i64 p.len]] w fun e w' => GotF w w' (flitsOf g p) e ∧ Below w.heap.size w w' := by
  cases hk : packetOk g p
  · have HE := Lib.hid (flitsOf_no hk)
    rw [HE.out]
    have HL0 : Hid (kF.R 103 (((w.alloc (.cells #[.int .i64 g.w, .int .i64 g.h] 35)).alloc (.cells #[.int .i64 p.id, .int .i64 p.src, .int .i64 p.dst, .int .i64 p.cls, .int .i64 p.len] 89)).alloc (.cells #[] 103)) w.heap.size (fun _ => True) (.slice (some ⟨w.heap.size + 1 + 1, 0, none⟩) 0 0) []) := Lib.hid (R_lit kF (lit_new (by simp only [szs])) (by omega))
    go_enter Tryz.func113, Tryz.ntmps113
    go_wp2_with (go_at_call 133; refine (impl_PacketOk g p _).mono ?_; rintro e w1 ⟨he, hb1⟩; rw [hk] at he; subst he; obtain ⟨hc1, hf1, hz1⟩ := bcell hb1; (try simp only [szs] at hz1); have hb2 := (by first | exact bw_then hb2 hb1 | exact bw_then (bw_drewN _ hb2) hb1 | exact bw_then (bw_alloc _ hb2) hb1 | exact bw_then (bw_drew hb2) hb1 | exact bw_then HB hb1 | exact bw_then (bw_drewN _ HB) hb1 | exact bw_then (bw_alloc _ HB) hb1 | exact bw_then (bw_drew HB) hb1 | exact hb1); obtain ⟨hc2, hf2, hz2⟩ := bcell hb2; (try simp only [szs] at hz2); try (first | obtain ⟨hy1, hy2, hy3, hy4⟩ := lts4 hz2 | obtain ⟨hy1, hy2, hy3⟩ := lts3 hz2 | obtain ⟨hy1, hy2⟩ := lts2 hz2 | have hy1 := lts1 hz2); have hb9 := hb1)
    go_ret
    exact ⟨⟨_, rfl, Kd.R_below HL0.out hb1⟩, bel⟩
  · have HE := Lib.hid (flitsOf_yes hk)
    obtain ⟨_, _, _, _, n1, n5⟩ := packet_parts hk
    rw [HE.out]
    obtain ⟨N, hN⟩ : ∃ N : Nat, p.len = (N : Int) := ⟨p.len.toNat, by omega⟩
    have HN : Hid (p.len.toNat = N) := Lib.hid (by rw [hN]; exact Int.toNat_natCast N)
    have HLN := Lib.hid hN
    have N5 : N ≤ 5 := by omega
    clear hN
    rw [HN.out]
    have XP : Hid (Box (((w.alloc (.cells #[.int .i64 g.w, .int .i64 g.h] 35)).alloc (.cells #[.int .i64 p.id, .int .i64 p.src, .int .i64 p.dst, .int .i64 p.cls, .int .i64 p.len] 89)).alloc (.cells #[] 103)) (w.heap.size + 1) #[.int .i64 p.id, .int .i64 p.src, .int .i64 p.dst, .int .i64 p.cls, .int .i64 p.len]) := Lib.hid ((Box.new _ _ _ _ (by simp only [szs])).alloc _)
    go_enter Tryz.func113, Tryz.ntmps113
    go_wp2_with fail
    refine (impl_PacketOk g p _).mono ?_
    rintro e w1 ⟨he, hb1⟩
    rw [hk] at he
    subst he
    have HB1 : Hid (Below w.heap.size w w1) := Lib.hid bel
    have HR1 : Hid (kF.R 103 w1 (w.heap.size + 2) (fun _ => True) (.slice (some ⟨w.heap.size + 2, 0, none⟩) 0 0) []) := Lib.hid (Kd.R_below (R_lit kF (lit_new (by simp only [szs])) (Nat.le_refl _)) hb1)
    have HX1 := Lib.hid (XP.out.below hb1)
    have x4 : w1.cell? ⟨w.heap.size + 1, 4, none⟩ = some (.int .i64 p.len) := HX1.out.get 4
    have xl := HX1.out.lt
    clear hb1 XP hk
    go_wp2_with fail
    go_loopw [5, 15] (fun v i wr => ∃ k : Nat, i = .int .i64 k ∧ k ≤ N ∧ Hid (kF.R 103 wr (w.heap.size + 2) (fun _ => True) v (flitsTo p k)) ∧ Hid (Box wr (w.heap.size + 1) #[.int .i64 p.id, .int .i64 p.src, .int .i64 p.dst, .int .i64 p.cls, .int .i64 p.len]) ∧ Hid (Below w.heap.size w wr)) (fun _ i _ => N - (intOf i).toNat)
    case atStart => exact ⟨0, rfl, Nat.zero_le _, Lib.hid HR1.out, Lib.hid HX1.out, Lib.hid HB1.out⟩
    case round =>
      clear HR1 HX1 HB1 x4 xl
      obtain ⟨k, rfl, hk, HO, HX, HB⟩ := hrel
      obtain ⟨wk, ewk⟩ : ∃ z, z = wr := ⟨_, rfl⟩
      subst ewk
      have xl := HX.out.lt
      have ll := flitsTo_len p k
      have hL : (flitsTo p k).length ≤ 100 := by omega
      obtain ⟨L, eL⟩ : ∃ L, flitsTo p k = L := ⟨_, rfl⟩
      have HS : Hid (flitsTo p (k + 1) = L ++ [flitAt p k]) := Lib.hid (by rw [flitsTo_succ, eL])
      have HL : Hid (flitsTo p k = L) := Lib.hid eL
      rw [eL] at HO hL
      clear ll eL
      obtain ⟨Av, cv, rfl⟩ := Kd.R_slice HO.out
      have x0 : wk.cell? ⟨w.heap.size + 1, 0, none⟩ = some (.int .i64 p.id) := HX.out.get 0
      have x2 : wk.cell? ⟨w.heap.size + 1, 2, none⟩ = some (.int .i64 p.dst) := HX.out.get 2
      have x3 : wk.cell? ⟨w.heap.size + 1, 3, none⟩ = some (.int .i64 p.cls) := HX.out.get 3
      have x4 : wk.cell? ⟨w.heap.size + 1, 4, none⟩ = some (.int .i64 p.len) := HX.out.get 4
      have zk := HB.out.size
      by_cases hlt : k < N
      · have hk1 : (k : Int) < p.len := by have := HLN.out; omega
        have k0 : (0 : Int) ≤ (k : Int) := by omega
        have hB2 : w.heap.size + 2 ≤ wk.heap.size := by omega
        go_wp2_with (at_builtin; refine app_Fg (B := w.heap.size + 2) rfl (.tmp 18) (.tmp 33) rfl _ L (flitAt p k) rfl (by first | rfl | exact congrArg (fun z => Value.slice (some ⟨z, 0, none⟩) 1 1) (World.size_alloc _ _).symm) HO.out hB2 (by omega) ?_; intro v1 w3 HO1 hg1 ha1)
        go_roundw
        case rel => exact ⟨k + 1, by go_num, by omega, Lib.hid (by rw [HS.out]; exact HO1), Lib.hid (HX.out.grown hg1 (fun e => by have := Kd.R_base HO.out _ e.symm; omega)), Lib.hid (HB.out.grown hg1 HB.out.size (fun i hi => by have := Kd.R_base HO.out i hi; omega))⟩
        case measure => simp [intOf]; omega
      · obtain rfl : k = N := by omega
        have hk1 : ¬ (k : Int) < p.len := by have := HLN.out; omega
        have h9 : kF.R 103 wk (w.heap.size + 2) (fun _ => True) (.slice Av L.length cv) (flitsTo p k) := by rw [HL.out]; exact HO.out
        go_wp2
        go_ret
        exact ⟨⟨_, rfl, Kd.R_lower h9 (by omega)⟩, HB.out⟩
set_option maxHeartbeats 4000000 in
theorem spec_FlitsOf (g : Grid) (p : Packet) (w : World) : Calls Tryz.prog 132 #[.agg #[.int .i64 g.w, .int .i64 g.h], .agg #[.int .i64 p.id, .int .i64 p.src, .int .i64 p.dst, .int .i64 p.cls, .int .i64 p.len]] w fun e w' => GotF w w' (flitsOf g p) e ∧ Below w.heap.size w w' := by
 have XP : Hid (Box (((w.alloc (.cells #[.int .i64 g.w, .int .i64 g.h] 35)).alloc (.cells #[.int .i64 p.id, .int .i64 p.src, .int .i64 p.dst, .int .i64 p.cls, .int .i64 p.len] 89)).alloc (.cells #[] 103)) (w.heap.size + 1) #[.int .i64 p.id, .int .i64 p.src, .int .i64 p.dst, .int .i64 p.cls, .int .i64 p.len]) := Lib.hid ((Box.new _ _ _ _ (by simp only [szs])).alloc _)
 have XG : Hid (Box (((w.alloc (.cells #[.int .i64 g.w, .int .i64 g.h] 35)).alloc (.cells #[.int .i64 p.id, .int .i64 p.src, .int .i64 p.dst, .int .i64 p.cls, .int .i64 p.len] 89)).alloc (.cells #[] 103)) w.heap.size #[.int .i64 g.w, .int .i64 g.h]) := Lib.hid (((Box.new _ _ _ _ rfl).alloc _).alloc _)
 have HB1 : Hid (Below w.heap.size w (((w.alloc (.cells #[.int .i64 g.w, .int .i64 g.h] 35)).alloc (.cells #[.int .i64 p.id, .int .i64 p.src, .int .i64 p.dst, .int .i64 p.cls, .int .i64 p.len] 89)).alloc (.cells #[] 103))) := Lib.hid bel
 have HR1 : Hid (kF.R 103 (((w.alloc (.cells #[.int .i64 g.w, .int .i64 g.h] 35)).alloc (.cells #[.int .i64 p.id, .int .i64 p.src, .int .i64 p.dst, .int .i64 p.cls, .int .i64 p.len] 89)).alloc (.cells #[] 103)) (w.heap.size + 2) (fun _ => True) (.slice (some ⟨w.heap.size + 2, 0, none⟩) 0 0) []) := Lib.hid (R_lit kF (lit_new (by simp only [szs])) (Nat.le_refl _))
 obtain ⟨N, hN⟩ : ∃ N : Nat, N = if packetOk g p = true then p.len.toNat else 0 := ⟨_, rfl⟩
 have HE : Hid (flitsOf g p = flitsTo p N) := Lib.hid (by
  rw [hN]
  cases hk : packetOk g p
  ·rw [flitsOf_no hk]; rfl
  ·rw [flitsOf_yes hk]; rfl)
 have HP : Hid (packetOk g p = true → p.len = (N : Int) ∧ N ≤ 5) := Lib.hid (fun h => by
  have := packet_parts h
  rw [hN, if_pos h]
  omega)
 have HQ : Hid (packetOk g p = false → N = 0) := Lib.hid (fun h => by rw [hN, if_neg (by simp [h])])
 clear hN
 rw [HE.out]
 go_enter Tryz.func132, Tryz.ntmps132
 go_wp2_with fail
 go_loopw [5, 6] (fun v i wr => ∃ k : Nat, i = .int .i64 k ∧ k ≤ N ∧ Hid (kF.R 103 wr (w.heap.size + 2) (fun _ => True) v (flitsTo p k)) ∧ Hid (Box wr (w.heap.size + 1) #[.int .i64 p.id, .int .i64 p.src, .int .i64 p.dst, .int .i64 p.cls, .int .i64 p.len]) ∧ Hid (Box wr w.heap.size #[.int .i64 g.w, .int .i64 g.h]) ∧ Hid (Below w.heap.size w wr)) (fun _ i _ => N - (intOf i).toNat)
 case atStart => exact ⟨0, rfl, Nat.zero_le _, Lib.hid HR1.out, Lib.hid XP.out, Lib.hid XG.out, Lib.hid HB1.out⟩
 case round =>
  clear HR1 XP XG HB1
  obtain ⟨k, rfl, hk, HO, HX, HG, HB⟩ := hrel
  obtain ⟨wk, ewk⟩ : ∃ z, z = wr := ⟨_, rfl⟩
  subst ewk
  have xl := HX.out.lt
  have gl := HG.out.lt
  have ll := flitsTo_len p k
  obtain ⟨L, eL⟩ : ∃ L, flitsTo p k = L := ⟨_, rfl⟩
  have HS : Hid (flitsTo p (k + 1) = L ++ [flitAt p k]) := Lib.hid (by rw [flitsTo_succ, eL])
  have HL : Hid (flitsTo p k = L) := Lib.hid eL
  have hL : L.length = k := by rw [← eL]; exact ll
  rw [eL] at HO
  clear ll eL
  obtain ⟨Av, cv, rfl⟩ := Kd.R_slice HO.out
  have x0 : wk.cell? ⟨w.heap.size + 1, 0, none⟩ = some (.int .i64 p.id) := HX.out.get 0
  have x1 : wk.cell? ⟨w.heap.size + 1, 1, none⟩ = some (.int .i64 p.src) := HX.out.get 1
  have x2 : wk.cell? ⟨w.heap.size + 1, 2, none⟩ = some (.int .i64 p.dst) := HX.out.get 2
  have x3 : wk.cell? ⟨w.heap.size + 1, 3, none⟩ = some (.int .i64 p.cls) := HX.out.get 3
  have x4 : wk.cell? ⟨w.heap.size + 1, 4, none⟩ = some (.int .i64 p.len) := HX.out.get 4
  have g0 : wk.cell? ⟨w.heap.size, 0, none⟩ = some (.int .i64 g.w) := HG.out.get 0
  have g1 : wk.cell? ⟨w.heap.size, 1, none⟩ = some (.int .i64 g.h) := HG.out.get 1
  have zk := HB.out.size
  have HLL := Lib.hid hL
  clear hL
  have h9 : Hid (kF.R 103 wk (w.heap.size + 2) (fun _ => True) (.slice Av L.length cv) (flitsTo p k)) := Lib.hid (by rw [HL.out]; exact HO.out)
  cases hk2 : packetOk g p
  ·obtain rfl : N = 0 := HQ.out hk2
   obtain rfl : k = 0 := by omega
   by_cases hl : 0 < p.len
   ·have hl2 : ((0 : Nat) : Int) < p.len := by simpa using hl
    go_wp2_with fail
    refine (spec_PacketOk g p _).mono ?_
    rintro e w5 ⟨he, hb5⟩
    rw [hk2] at he
    subst he
    go_wp2
    go_ret
    exact ⟨⟨_, rfl, Kd.R_lower (Kd.R_below h9.out hb5) (by omega)⟩, bw_then HB.out hb5⟩
   ·have hl2 : ¬ ((0 : Nat) : Int) < p.len := by simpa using hl
    go_wp2
    go_ret
    exact ⟨⟨_, rfl, Kd.R_lower h9.out (by omega)⟩, HB.out⟩
  ·obtain ⟨hlen, N5⟩ := HP.out hk2
   have HLN := Lib.hid hlen
   clear hlen
   by_cases hlt : k < N
   ·have hk1 : (k : Int) < p.len := by have := HLN.out; omega
    have k0 : (0 : Int) ≤ (k : Int) := by omega
    have l5 : p.len ≤ 5 := by have := HLN.out; omega
    go_wp2_with fail
    refine (spec_PacketOk g p _).mono ?_
    rintro e w5 ⟨he, hb5⟩
    rw [hk2] at he
    subst he
    have HO5 := Lib.hid (Kd.R_below HO.out hb5)
    have HX5 := Lib.hid (HX.out.below hb5)
    have HG5 := Lib.hid (HG.out.below hb5)
    have HB5 : Hid (Below w.heap.size w w5) := Lib.hid (bw_then HB.out hb5)
    have zk5 := HB5.out.size
    have y0 : w5.cell? ⟨w.heap.size + 1, 0, none⟩ = some (.int .i64 p.id) := HX5.out.get 0
    have y2 : w5.cell? ⟨w.heap.size + 1, 2, none⟩ = some (.int .i64 p.dst) := HX5.out.get 2
    have y3 : w5.cell? ⟨w.heap.size + 1, 3, none⟩ = some (.int .i64 p.cls) := HX5.out.get 3
    have y4 : w5.cell? ⟨w.heap.size + 1, 4, none⟩ = some (.int .i64 p.len) := HX5.out.get 4
    have yl := HX5.out.lt
    have hB2 : w.heap.size + 2 ≤ w5.heap.size := by omega
    have hL100 : L.length ≤ 100 := by have := HLL.out; omega
    clear hb5 x0 x1 x2 x3 x4 g0 g1 hk2
    go_wp2_with (at_builtin; refine app_Fg (B := w.heap.size + 2) rfl (.tmp 19) (.tmp 34) rfl _ L (flitAt p k) rfl (by first | rfl | exact congrArg (fun z => Value.slice (some ⟨z, 0, none⟩) 1 1) (World.size_alloc _ _).symm) HO5.out hB2 (by omega) ?_; intro v1 w3 HO1 hg1 ha1)
    go_roundw
    case rel => exact ⟨k + 1, by go_num, by omega, Lib.hid (by rw [HS.out]; exact HO1), Lib.hid (HX5.out.grown hg1 (fun e => by have := Kd.R_base HO5.out _ e.symm; omega)), Lib.hid (HG5.out.grown hg1 (fun e => by have := Kd.R_base HO5.out _ e.symm; omega)), Lib.hid (HB5.out.grown hg1 HB5.out.size (fun i hi => by have := Kd.R_base HO5.out i hi; omega))⟩
    case measure => simp [intOf]; omega
   ·obtain rfl : k = N := by omega
    have hk1 : ¬ (k : Int) < p.len := by have := HLN.out; omega
    go_wp2
    go_ret
    exact ⟨⟨_, rfl, Kd.R_lower h9.out (by omega)⟩, HB.out⟩
end Go.Proofs.YteeebfeljjghhaaGreat
/- A packet sent into a valid network; no program, no memory. -/
set_option linter.unusedVariables false
set_option linter.unusedSimpArgs false
namespace Go.Proofs.YteeebfeljjghhaaGreat
open NoC
def sendOk (n : Net) (p : Packet) : Bool := packetOk n.mesh.g p && decide (((rl n.srcs p.src).length : Int) + p.len ≤ 60)
def sendN (n : Net) (p : Packet) : Net := { n with srcs := n.srcs.set p.src.toNat (rl n.srcs p.src ++ flitsOf n.mesh.g p) }
def sndN (n : Net) (p : Packet) : Net := if sendOk n p = true then sendN n p else n
theorem flits_ok {g : Grid} {p : Packet} (h : packetOk g p = true) : areFl g (flitsOf g p) = true := by
  obtain ⟨_, h2, h3, h4, _, _⟩ := packet_parts h
  rw [flitsOf_yes h]
  unfold areFl flitsTo
  rw [List.all_eq_true]
  intro f hf
  obtain ⟨i, _, rfl⟩ := List.mem_map.1 hf
  simp only [flitOk, flitAt, Bool.and_eq_true]
  exact ⟨h2, inside_iff.2 ⟨h3, h4⟩⟩
theorem sendN_ok {n : Net} {p : Packet} (ok : netOk n = true) (h : sendOk n p = true) : netOk (sendN n p) = true := by
  obtain ⟨c, s1, s2, s3, s4, s5, hb, hs, ho, hu, hm⟩ := netOk_parts ok
  simp only [sendOk, Bool.and_eq_true, decide_eq_true_eq] at h
  obtain ⟨hp, hl⟩ := h
  have hfl := flitsOf_len hp
  rw [inside_iff] at hm
  simp only [netOk, shapeOk, Bool.and_eq_true, decide_eq_true_eq, allI_iff]
  have el : (sendN n p).srcs.length = n.srcs.length := by simp [sendN]
  rw [el]
  refine ⟨⟨⟨⟨⟨⟨c, ⟨⟨⟨⟨s1, s2⟩, s3⟩, s4⟩, s5⟩⟩, hb⟩, fun i hi => ?_⟩, fun i hi => ho i hi⟩, fun i hi => hu i hi⟩, inside_iff.2 hm⟩
  have h1 := hs i hi
  have nd := isNode_iff.1 (packet_parts hp).1
  show srcOk n.mesh.g (rl (n.srcs.set p.src.toNat (rl n.srcs p.src ++ flitsOf n.mesh.g p)) i) = true
  by_cases e : p.src.toNat = i
  · have e2 : rl (n.srcs.set p.src.toNat (rl n.srcs p.src ++ flitsOf n.mesh.g p)) i = rl n.srcs p.src ++ flitsOf n.mesh.g p := by
      simp [rl, List.getD_eq_getElem?_getD, e, hi]
    have e3 : rl n.srcs p.src = rl n.srcs (i : Int) := by unfold rl; rw [e, Int.toNat_natCast]
    rw [e2, e3]
    rw [e3] at hl
    simp only [srcOk, areFl, Bool.and_eq_true, decide_eq_true_eq, List.all_append] at h1 ⊢
    have h2 := flits_ok hp
    unfold areFl at h2
    refine ⟨?_, h1.2, h2⟩
    rw [List.length_append]
    omega
  · have e2 : rl (n.srcs.set p.src.toNat (rl n.srcs p.src ++ flitsOf n.mesh.g p)) i = rl n.srcs i := by
      simp [rl, List.getD_eq_getElem?_getD, e]
    rw [e2]
    exact h1
theorem sndN_ok {n : Net} {p : Packet} (ok : netOk n = true) : netOk (sndN n p) = true := by
  unfold sndN
  split
  · rename_i h; exact sendN_ok ok h
  · exact ok
theorem sndN_nb {n : Net} {p : Packet} (nb : NB n) (ok : netOk n = true) : NB (sndN n p) := by
  unfold sndN
  split
  · rename_i h
    obtain ⟨_, _, _, _, _, _, _, hs, _⟩ := netOk_parts (sendN_ok ok h)
    refine ⟨nb.h1, nb.h2, nb.h3, nb.h4, nb.h5, nb.h6, by show (n.srcs.set _ _).length ≤ _; rw [List.length_set]; exact nb.h7, nb.h8, nb.h9, fun x hx => ?_, nb.h11⟩
    obtain ⟨i, hi, e⟩ : ∃ i : Nat, i < (sendN n p).srcs.length ∧ rl (sendN n p).srcs i = x := by
      obtain ⟨i, hi, rfl⟩ := List.getElem_of_mem hx
      exact ⟨i, hi, by simp [rl, List.getD_eq_getElem?_getD, hi]⟩
    have h1 := hs i hi
    rw [e] at h1
    simp only [srcOk, Bool.and_eq_true, decide_eq_true_eq] at h1
    omega
  · exact nb
def sndTo (n : Net) (l : List Packet) : Nat → Net
  | 0 => n
  | k + 1 => sndN (sndTo n l k) (rp l k)
def cntTo (n : Net) (l : List Packet) : Nat → Int
  | 0 => 0
  | k + 1 => cntTo n l k + (if sendOk (sndTo n l k) (rp l k) = true then 1 else 0)
theorem sndTo_ok {n : Net} (ok : netOk n = true) (l : List Packet) : ∀ k, netOk (sndTo n l k) = true := by
  intro k
  induction k with
  | zero => exact ok
  | succ k ih => exact sndN_ok ih
theorem sndTo_nb {n : Net} (nb : NB n) (ok : netOk n = true) (l : List Packet) : ∀ k, NB (sndTo n l k) := by
  intro k
  induction k with
  | zero => exact nb
  | succ k ih => exact sndN_nb ih (sndTo_ok ok l k)
theorem cntTo_range (n : Net) (l : List Packet) : ∀ k : Nat, 0 ≤ cntTo n l k ∧ cntTo n l k ≤ (k : Int) := by
  intro k
  induction k with
  | zero => simp [cntTo]
  | succ k ih =>
    simp only [cntTo]
    split <;> omega
def canAll (n : Net) (l : List Packet) : Bool := netOk n && decide (l.length ≤ 40)
def sendAllN (n : Net) (l : List Packet) : Net := if canAll n l = true then sndTo n l l.length else n
def sendAllK (n : Net) (l : List Packet) : Int := if canAll n l = true then cntTo n l l.length else -1
def sendPacketN (n : Net) (p : Packet) : Net := if netOk n = true then sndN n p else n
def sendPacketB (n : Net) (p : Packet) : Bool := netOk n && sendOk n p
theorem sendAll_nb {n : Net} {l : List Packet} (nb : NB n) : NB (sendAllN n l) := by
  unfold sendAllN
  split
  · rename_i h
    simp only [canAll, Bool.and_eq_true] at h
    exact sndTo_nb nb h.1 l _
  · exact nb
end Go.Proofs.YteeebfeljjghhaaGreat
/- The laws' marks on meshes, tables and classes. For all rows of at most a million elements. -/
set_option linter.unusedVariables false
set_option linter.unusedSimpArgs false
namespace Go.Proofs.YteeebfeljjghhaaGreat
open Go.RowKit Go.Proofs.YteeebfeljjghhaaGreatW.PrintWords
open NoC

theorem laws_markTable (t : List Int) (k : Int) (A : Option Addr) (c base : Nat) (w : World) (HO : Kd.R (Kd.int .i64) 3 w base (fun _ => True) (.slice A t.length c) t) (hn : t.length ≤ 2097152) (k0 : 0 ≤ k) (k1 : k ≤ 1000000000) :
    Calls Tryz.prog 102 #[.agg #[.slice A t.length c], .int .i64 k] w fun e w' => e = .returned (.int .i64 (k + t.length)) ∧ Kd.R (Kd.int .i64) 3 w' base (fun _ => True) (.slice A t.length c) (markL k t.length) ∧ w.grownBy w' (Value.slice A t.length c).ownBlock := by
  go_enter Tryz.func102, Tryz.ntmps102
  go_wp2_with (go_at_call 54; refine (laws_markIntS t k A c base _ (by exact Kd.R_below HO bel) hn k0 (by omega)).mono ?_; rintro e w1 ⟨rfl, HR1, hg1⟩)
  go_ret
  exact ⟨rfl, HR1, grown_trans (World.grownBy_alloc _ _ _) hg1⟩
theorem laws_heldTable (n : Nat) (k : Int) (A : Option Addr) (c : Nat) (w : World) (hr0 : Kd.C (Kd.int .i64) w A n (markL k n)) (hn : n ≤ 2097152) (k0 : 0 ≤ k) (k1 : k ≤ 1000000000) :
    Calls Tryz.prog 104 #[.agg #[.slice A n c], .int .i64 k] w fun e w' => e = .returned (.int .i64 (k + n)) ∧ Below w.heap.size w w' := by
  go_enter Tryz.func104, Tryz.ntmps104
  go_wp2_with (go_at_call 58; refine (laws_heldIntS n k A c _ (by exact Kd.C_below hr0 bel) hn k0 (by omega)).mono ?_; rintro e w' ⟨rfl, rfl⟩)
  go_ret
  exact ⟨rfl, bel⟩
theorem laws_markMesh (m : Mesh) (k : Int) (A : Option Addr) (c base : Nat) (w : World) (HO : Kd.R (Kd.int .i64) 3 w base (fun _ => True) (.slice A m.br.length c) m.br) (hn : m.br.length ≤ 2097152) (k0 : 0 ≤ k) (k1 : k ≤ 1000000000) :
    Calls Tryz.prog 51 #[.agg #[.int .i64 m.g.w, .int .i64 m.g.h, .slice A m.br.length c], .int .i64 k] w fun e w' => e = .returned (.int .i64 (k + m.br.length)) ∧ w.grownBy w' (Value.slice A m.br.length c).ownBlock := by
  go_enter Tryz.func51, Tryz.ntmps51
  go_wp2_with (go_at_call 54; refine (laws_markIntS m.br k A c base _ (by exact Kd.R_below HO bel) hn k0 (by omega)).mono ?_; rintro e w1 ⟨rfl, _, hg1⟩)
  go_ret
  exact ⟨rfl, grown_trans (World.grownBy_alloc _ _ _) hg1⟩
theorem laws_markClasses (pa pb : List Int) (k : Int) (A B : Option Addr) (c d base : Nat) (w : World) (HA : Kd.R (Kd.int .i64) 3 w base (fun _ => True) (.slice A pa.length c) pa) (HB : Kd.R (Kd.int .i64) 3 w base (fun _ => True) (.slice B pb.length d) pb) (hap : Apart (.slice B pb.length d) (.slice A pa.length c)) (hn : pa.length ≤ 2097152) (hm : pb.length ≤ 2097152) (k0 : 0 ≤ k) (k1 : k ≤ 100000000) :
    Calls Tryz.prog 52 #[.agg #[.slice A pa.length c, .slice B pb.length d], .int .i64 k] w fun e w' => e = .returned (.int .i64 (k + pa.length + pb.length)) ∧ ∃ wm, w.grownBy wm (Value.slice A pa.length c).ownBlock ∧ wm.grownBy w' (Value.slice B pb.length d).ownBlock := by
  have hlt := Kd.R_lt HA
  have HLT := Lib.hid hlt
  clear hlt
  go_enter Tryz.func52, Tryz.ntmps52
  go_wp2_with (first | (go_at_call_of 102 pb; refine (laws_markTable pb _ B d base _ HB1 hm (by omega) (by omega)).mono ?_; rintro e w2 ⟨rfl, _, hg2⟩) | (go_at_call_of 102 pa; refine (laws_markTable pa k A c base _ (by exact Kd.R_below HA bel) hn k0 (by omega)).mono ?_; rintro e w1 ⟨rfl, _, hg1⟩; have B0 := Box.grown (Box.new w w.heap.size #[.slice A pa.length c, .slice B pb.length d] _ rfl) hg1 (by intro e; have := HLT.out _ e.symm; omega); have HB1 := R_grownI (Kd.R_below HB (bw_alloc _ (bw_refl w))) hg1 hap; obtain ⟨y0, g0⟩ := B0))
  go_ret
  exact ⟨rfl, _, grown_trans (World.grownBy_alloc _ _ _) hg1, hg2⟩
end Go.Proofs.YteeebfeljjghhaaGreat
/- The laws' marks on flits, rows of rows and networks: what is written lies in the network's own stretch of blocks. -/
set_option linter.unusedVariables false
set_option linter.unusedSimpArgs false
namespace Go.Proofs.YteeebfeljjghhaaGreat
open Go.RowKit Go.Proofs.YteeebfeljjghhaaGreatW.PrintWords
open NoC

def markQF (k : Int) (j : Nat) : Flit := ⟨k + 5 * j, k + 5 * j + 1, k + 5 * j + 1 + 1, (k + 5 * j + 1 + 1 + 1) % 3 == 0, (k + 5 * j + 1 + 1 + 1 + 1) % 3 == 0⟩
def markFl (k : Int) (n : Nat) : List Flit := (List.range n).map (markQF k)
theorem markFl_len (k : Int) (n : Nat) : (markFl k n).length = n := by simp [markFl]
theorem markFl_get (k : Int) (n j : Nat) (h : j < n) : rf (markFl k n) j = markQF k j := by
  simp [rf, markFl, List.getD_eq_getElem?_getD, h]
theorem rowFl_set {e base g m c : Nat} {w : World} {xs : List Flit} (h : kF.R e w base (fun _ => True) (.slice (some ⟨g, 0, none⟩) m c) xs) (k : Nat) (hk : k < m) (p : Flit) :
    kF.R e (((((w.setCell ⟨g, k * 5, none⟩ (.int .i64 p.pk)).setCell ⟨g, k * 5 + 1, none⟩ (.int .i64 p.dst)).setCell ⟨g, k * 5 + 2, none⟩ (.int .i64 p.cls)).setCell ⟨g, k * 5 + 3, none⟩ (.bool p.head)).setCell ⟨g, k * 5 + 4, none⟩ (.bool p.tail)) base (fun _ => True) (.slice (some ⟨g, 0, none⟩) m c) (xs.set k p) ∧
    w.grownBy (((((w.setCell ⟨g, k * 5, none⟩ (.int .i64 p.pk)).setCell ⟨g, k * 5 + 1, none⟩ (.int .i64 p.dst)).setCell ⟨g, k * 5 + 2, none⟩ (.int .i64 p.cls)).setCell ⟨g, k * 5 + 3, none⟩ (.bool p.head)).setCell ⟨g, k * 5 + 4, none⟩ (.bool p.tail)) (some g) := by
  have hc := rowF_cell z0 h k hk
  have := Kd.R_seg (d := kF) h (k : Int) (by omega) (by omega) (c := fCells (xs.getD k z0)) (seg := fCells p) (j := 0) (okp := fun _ => False) (x' := p) rfl (fun j u hu => hc.1 j u hu) (by show 0 + 5 ≤ 5; omega) rfl (fun _ h => h.elim)
  exact this

set_option maxHeartbeats 2000000 in
theorem laws_markFlitS (l : List Flit) (k : Int) (A : Option Addr) (c base : Nat) (w : World) (HO0 : kF.R 103 w base (fun _ => True) (.slice A l.length c) l) (hn : l.length ≤ 2097152) (k0 : 0 ≤ k) (k1 : k ≤ 100000000000000000) :
    Calls Tryz.prog 103 #[.slice A l.length c, .int .i64 k] w fun e w' => e = .returned (.int .i64 (k + 5 * l.length)) ∧ kF.R 103 w' base (fun _ => True) (.slice A l.length c) (markFl k l.length) ∧ w.grownBy w' (Value.slice A l.length c).ownBlock := by
  go_enter Tryz.func103, Tryz.ntmps103
  go_wp2
  go_loopw [1, 5] (fun v i wr => ∃ (j : Nat) (x : List Flit), i = .int .i64 j ∧ v = .int .i64 (k + 5 * j) ∧ j ≤ l.length ∧ Hid (x.length = l.length) ∧ Hid (∀ q : Nat, q < j → rf x q = markQF k q) ∧ kF.R 103 wr base (fun _ => True) (.slice A l.length c) x ∧ w.grownBy wr (Value.slice A l.length c).ownBlock) (fun _ i _ => l.length - (intOf i).toNat)
  case atStart => exact ⟨0, l, rfl, by simp, Nat.zero_le _, Lib.hid rfl, Lib.hid fun q h => absurd h (Nat.not_lt_zero _), HO0, World.grownBy.refl _ _⟩
  case round =>
    obtain ⟨j, x, rfl, rfl, hj, HL, HA, HO, HG⟩ := hrel
    by_cases hlt : j < l.length
    · obtain ⟨g, cap, hv, hgb, hgl, cells, HGC⟩ := Kd.R_form HO (by have := HL.out; omega)
      injection hv with hv1 hv2 hv3
      subst hv1
      subst hv3
      clear HGC hv2
      obtain ⟨hcc, hff⟩ := rowF_cell z0 HO j hlt
      have x0 : wr.cell? ⟨g, j * 5, none⟩ = some (.int .i64 (rf x j).pk) := hcc 0 _ rfl
      have x1 : wr.cell? ⟨g, j * 5 + 1, none⟩ = some (.int .i64 (rf x j).dst) := hcc 1 _ rfl
      have x2 : wr.cell? ⟨g, j * 5 + 2, none⟩ = some (.int .i64 (rf x j).cls) := hcc 2 _ rfl
      have x3 : wr.cell? ⟨g, j * 5 + 3, none⟩ = some (.bool (rf x j).head) := hcc 3 _ rfl
      have x4 : wr.cell? ⟨g, j * 5 + 4, none⟩ = some (.bool (rf x j).tail) := hcc 4 _ rfl
      have f0 : wr.frozen? ⟨g, j * 5, none⟩ = false := hff 0
      have f1 := hff 1
      have f2 := hff 2
      have f3 := hff 3
      have f4 := hff 4
      have HP := rowFl_set HO j hlt (markQF k j)
      have HS := Lib.hid HP
      clear HP hcc hff
      go_wp2
      go_roundw
      case rel => exact ⟨j + 1, x.set j (markQF k j), by go_num, by first | (push_cast; congr 1; omega) | (congr 1; push_cast; omega), by omega, Lib.hid (by rw [List.length_set]; exact HL.out), Lib.hid (upto (fun q hq => by rw [set_getF (by have := HL.out; omega) q (by have := HL.out; omega), if_neg (by omega)]; exact HA.out q hq) (by rw [set_getF (by have := HL.out; omega) j (by have := HL.out; omega), if_pos rfl])), HS.out.1, grown_trans HG HS.out.2⟩
      case measure => simp [intOf]; omega
    · go_wp2
      go_ret
      have e : x = markFl k l.length := same_getF (by rw [HL.out, markFl_len]) (fun q hq => by rw [markFl_len] at hq; rw [HA.out q (by omega), markFl_get _ _ _ hq])
      subst e
      exact ⟨ret_int (by rw [show j = l.length by omega]), HO, HG⟩
theorem OB.upd {w w1 : World} {lo hi : Nat} {v : Value} {l : List (List Flit)} {vs : List Value} (h : OB w lo hi v l vs) (k : Nat) (hk : k < l.length) (hg : w.grownBy w1 (vr vs k).ownBlock) {y : List Flit} (hy : RU kF 103 w1 lo hi (vr vs k) y) : OB w1 lo hi v (l.set k y) vs := by
  have hl := h.len
  obtain ⟨inner, hin⟩ := Kd.R_own (h.row k hk)
  refine ⟨?_, h.top, fun i hi' => ?_, fun i j hij hj => h.apart i j hij (by rwa [List.length_set] at hj)⟩
  · rw [List.length_set]
    exact h.own.kept hg (own_type_ne h.own hin (by decide))
  · rw [List.length_set] at hi'
    rw [set_getB hk i hi']
    by_cases e : k = i
    · subst e
      rw [if_pos rfl]
      exact hy
    · rw [if_neg e]
      obtain ⟨h0, inner', ho, hr⟩ := h.row i hi'
      exact ⟨h0, inner', ho.kept hg (h.apart' (fun h => e h.symm) hi' hk), hr⟩
def totTo (l : List (List Flit)) : Nat → Nat
  | 0 => 0
  | i + 1 => totTo l i + (rl l i).length
theorem totTo_le {l : List (List Flit)} (h : ∀ x ∈ l, x.length ≤ 2097152) : ∀ i, i ≤ l.length → totTo l i ≤ 2097152 * i := by
  intro i
  induction i with
  | zero => intro _; simp [totTo]
  | succ i ih =>
    intro hi
    have h1 := ih (by omega)
    have h2 := h _ (rl_mem (show i < l.length by omega))
    simp only [totTo]
    omega
set_option maxHeartbeats 2000000 in
theorem laws_markFlitSS (l : List (List Flit)) (vs : List Value) (k : Int) (A : Option Addr) (c lo hi : Nat) (w : World) (HO0 : OB w lo hi (.slice A l.length c) l vs) (hlo : lo ≤ hi) (hn : l.length ≤ 2097152) (hm : Hid (∀ x ∈ l, x.length ≤ 2097152)) (k0 : 0 ≤ k) (k1 : k ≤ 1000000000000000) :
    Calls Tryz.prog 53 #[.slice A l.length c, .int .i64 k] w fun e w' => e = .returned (.int .i64 (k + 5 * (totTo l l.length : Int))) ∧ (∃ x, OB w' lo hi (.slice A l.length c) x vs ∧ x.length = l.length ∧ ∀ i : Nat, i < l.length → rl x i = markFl (k + 5 * (totTo l i : Int)) (rl l i).length) ∧ Chg lo hi w w' := by
  go_enter Tryz.func53, Tryz.ntmps53
  go_wp2
  go_loopw [1, 5] (fun v i wr => ∃ (j : Nat) (x : List (List Flit)), i = .int .i64 j ∧ v = .int .i64 (k + 5 * (totTo l j : Int)) ∧ j ≤ l.length ∧ Hid (x.length = l.length) ∧ Hid ((∀ q : Nat, q < j → rl x q = markFl (k + 5 * (totTo l q : Int)) (rl l q).length) ∧ ∀ q : Nat, j ≤ q → rl x q = rl l q) ∧ OB wr lo hi (.slice A l.length c) x vs ∧ Chg lo hi w wr) (fun _ i _ => l.length - (intOf i).toNat)
  case atStart => exact ⟨0, l, rfl, by simp [totTo], Nat.zero_le _, Lib.hid rfl, Lib.hid ⟨fun q h => absurd h (Nat.not_lt_zero _), fun _ _ => rfl⟩, HO0, Chg.refl _ _ _⟩
  case round =>
    obtain ⟨j, x, rfl, rfl, hj, HL, HA, HO, HG⟩ := hrel
    have ht := totTo_le hm.out j hj
    by_cases hlt : j < l.length
    · have hxl : j < x.length := by have := HL.out; omega
      have hlj := hm.out _ (rl_mem hlt)
      have hrow := HO.row j hxl
      rw [HA.out.2 j (Nat.le_refl _)] at hrow
      obtain ⟨Aj, cj, hvj⟩ := Kd.R_slice hrow
      obtain ⟨g, cap, hv, hgb, hgh, hgl, hcap, cells, HGC⟩ := HO.form (by omega)
      rw [HL.out] at hv
      injection hv with hv1 hv2 hv3
      subst hv1
      subst hv3
      obtain ⟨hx9, hf9⟩ := HO.cell j hxl
      rw [hvj] at hx9
      have HOH := Lib.hid HO
      have hr2 := hrow
      rw [hvj] at hr2
      have HR := Lib.hid hr2
      have HV := Lib.hid hvj
      have hts : ((totTo l (j + 1) : Nat) : Int) = (totTo l j : Int) + ((rl l j).length : Int) := by simp [totTo]
      have HT := Lib.hid hts
      clear HGC hv2 HO hrow hr2 hvj hts hf9
      go_wp2_with (go_at_call 103; refine (laws_markFlitS (rl l j) _ Aj cj lo _ (RU.row HR.out) hlj (by omega) (by omega)).mono ?_; rintro e w1 ⟨rfl, HR1, hg1⟩)
      go_roundw
      case rel =>
        have hgg : wr.grownBy w1 (vr vs j).ownBlock := by rw [HV.out]; exact hg1
        have hw := HR.out.within
        refine ⟨j + 1, x.set j (markFl (k + 5 * (totTo l j : Int)) (rl l j).length), by go_num, by rw [HT.out]; congr 1; omega, by omega, Lib.hid (by rw [List.length_set]; exact HL.out), Lib.hid ⟨upto (fun q hq => by rw [set_getB hxl q (by omega), if_neg (by omega)]; exact HA.out.1 q hq) (by rw [set_getB hxl j hxl, if_pos rfl]), fun q hq => ?_⟩, HOH.out.upd j hxl hgg ?_, HG.trans (Chg.of_grown hg1 hw)⟩
        · by_cases hqx : q < x.length
          · rw [set_getB hxl q hqx, if_neg (by omega)]
            exact HA.out.2 q (by omega)
          · have e1 : rl (x.set j (markFl (k + 5 * (totTo l j : Int)) (rl l j).length)) q = [] := by simp [rl, List.getD_eq_getElem?_getD, hqx]
            have e2 : rl l q = [] := by
              have : ¬ q < l.length := by have := HL.out; omega
              simp [rl, List.getD_eq_getElem?_getD, this]
            rw [e1, e2]
        · rw [HV.out]
          obtain ⟨_, inner, ho, hrr⟩ := HR1
          exact ⟨fun q hq => (hw q hq).2, inner, ho, hrr⟩
      case measure => simp [intOf]; omega
    · go_wp2
      go_ret
      obtain rfl : j = l.length := by omega
      exact ⟨rfl, ⟨x, HO, HL.out, HA.out.1⟩, HG⟩
structure NetI (w : World) (a b : Nat → Nat) (n : Net) (q : NA) (v4 v7 v8 : List Value) : Prop where
  br : RU (Kd.int .i64) 3 w (a 0) (b 0) (.slice q.a1 n.mesh.br.length q.c1) n.mesh.br
  pa : RU (Kd.int .i64) 3 w (a 1) (b 1) (.slice q.a2 n.pa.length q.c2) n.pa
  pb : RU (Kd.int .i64) 3 w (a 1) (b 1) (.slice q.a3 n.pb.length q.c3) n.pb
  ap : Apart (.slice q.a3 n.pb.length q.c3) (.slice q.a2 n.pa.length q.c2)
  bufs : OB w (a 2) (b 2) (.slice q.a4 n.bufs.length q.c4) n.bufs v4
  owners : RU (Kd.int .i64) 3 w (a 3) (b 3) (.slice q.a5 n.owners.length q.c5) n.owners
  turns : RU (Kd.int .i64) 3 w (a 4) (b 4) (.slice q.a6 n.turns.length q.c6) n.turns
  srcs : OB w (a 5) (b 5) (.slice q.a7 n.srcs.length q.c7) n.srcs v7
  arrs : OB w (a 6) (b 6) (.slice q.a8 n.arrs.length q.c8) n.arrs v8
structure Lay (lo hi : Nat) (a b : Nat → Nat) : Prop where
  inn : ∀ i, i < 7 → lo ≤ a i ∧ a i ≤ b i ∧ b i ≤ hi
  dis : ∀ i j, i < 7 → j < 7 → i ≠ j → b i ≤ a j ∨ b j ≤ a i
def GotNI (w w' : World) (n : Net) (e : Ending) : Prop := ∃ q a b v4 v7 v8, e = .returned (.agg (netCells n q)) ∧ Lay w.heap.size w'.heap.size a b ∧ NetI w' a b n q v4 v7 v8
theorem NetI.reads {w : World} {a b : Nat → Nat} {n : Net} {q : NA} {v4 v7 v8 : List Value} {w0 : World} {q0 : NA} {e0 : Nat} (h : NetI w a b n q v4 v7 v8) (k : NetR e0 w0 n q0) : NetR 103 w n q :=
  ⟨h.br.reads.2.2, h.pa.reads.2.2, h.pb.reads.2.2, h.bufs.reads.2.2, h.owners.reads.2.2, h.turns.reads.2.2, h.srcs.reads.2.2, h.arrs.reads.2.2, k.h1, k.h2, k.h3, k.h4, k.h5, k.h6, k.h7, k.h8, k.h9, k.h10, k.h11⟩
theorem NetI.below {w w1 : World} {a b : Nat → Nat} {n : Net} {q : NA} {v4 v7 v8 : List Value} (h : NetI w a b n q v4 v7 v8) (hb : Below w.heap.size w w1) : NetI w1 a b n q v4 v7 v8 :=
  ⟨h.br.below hb, h.pa.below hb, h.pb.below hb, h.ap, h.bufs.below hb, h.owners.below hb, h.turns.below hb, h.srcs.below hb, h.arrs.below hb⟩
def seven (x0 x1 x2 x3 x4 x5 x6 : Nat) (i : Nat) : Nat := match i with | 0 => x0 | 1 => x1 | 2 => x2 | 3 => x3 | 4 => x4 | 5 => x5 | _ => x6
theorem lay_seq {t0 t1 t2 t3 t4 t5 t6 t7 : Nat} (h0 : t0 ≤ t1) (h1 : t1 ≤ t2) (h2 : t2 ≤ t3) (h3 : t3 ≤ t4) (h4 : t4 ≤ t5) (h5 : t5 ≤ t6) (h6 : t6 ≤ t7) {lo hi : Nat} (hl : lo ≤ t0) (hh : t7 ≤ hi) : Lay lo hi (seven t0 t1 t2 t3 t4 t5 t6) (seven t1 t2 t3 t4 t5 t6 t7) := by
  refine ⟨fun i hi => ?_, fun i j hi hj hne => ?_⟩
  · rcases (by omega : i = 0 ∨ i = 1 ∨ i = 2 ∨ i = 3 ∨ i = 4 ∨ i = 5 ∨ i = 6) with rfl | rfl | rfl | rfl | rfl | rfl | rfl <;> (simp only [seven]; omega)
  · rcases (by omega : i = 0 ∨ i = 1 ∨ i = 2 ∨ i = 3 ∨ i = 4 ∨ i = 5 ∨ i = 6) with rfl | rfl | rfl | rfl | rfl | rfl | rfl <;> rcases (by omega : j = 0 ∨ j = 1 ∨ j = 2 ∨ j = 3 ∨ j = 4 ∨ j = 5 ∨ j = 6) with rfl | rfl | rfl | rfl | rfl | rfl | rfl <;> first | exact absurd rfl hne | (simp only [seven]; omega)
def GotOB (w w' : World) (l : List (List Flit)) (e : Ending) : Prop := ∃ v vs, e = .returned v ∧ OB w' w.heap.size w'.heap.size v l vs
set_option maxHeartbeats 2000000 in
theorem laws_toFlitSS2 (l : List (List Flit)) (A : Option Addr) (c : Nat) (w : World) (hr : (kB 103).C w A l.length l) (hn : l.length ≤ 2097152) (hm : Hid (∀ x ∈ l, x.length ≤ 2097152)) :
    Calls Tryz.prog 42 #[.slice A l.length c] w fun e w' => GotOB w w' l e ∧ Below w.heap.size w w' := by
  have mk := print_make_int (P := Tryz.prog) 41 100 (.slice none 0 0) 24 Tryz.underlying41 info_B rfl (by omega) (l.length : Int) (by omega) (by simp; omega)
  simp only [Int.toNat_natCast] at mk
  have HM := Lib.hid (OB.made w w.heap.size l.length (Nat.le_refl _) (by omega))
  go_enter Tryz.func42, Tryz.ntmps42
  go_wp2
  go_loopw [4] (fun i wr => ∃ (k : Nat) (x : List (List Flit)) (vs : List Value), i = .int .i64 k ∧ k ≤ l.length ∧ Hid (x.length = l.length) ∧ Hid (∀ j : Nat, j < k → rl x j = rl l j) ∧ OB wr w.heap.size wr.heap.size (.slice (some ⟨w.heap.size, 0, none⟩) l.length l.length) x vs ∧ Below w.heap.size w wr ∧ w.heap.size < wr.heap.size) (fun i _ => l.length - (intOf i).toNat)
  case atStart => exact ⟨0, List.replicate l.length [], List.replicate l.length (.slice none 0 0), rfl, Nat.zero_le _, Lib.hid (by simp), Lib.hid fun j h => absurd h (Nat.not_lt_zero _), HM.out.wide (Nat.le_refl _) (by simp), bel, by simp⟩
  case round =>
    obtain ⟨k, x, vs, rfl, hk, HL, HA, HO, HB, hsz⟩ := hrel
    obtain ⟨hc0, hf0, hz0⟩ := bcell HB
    by_cases hlt : k < l.length
    · obtain ⟨b, off, rfl, hb, Ai, ci, p0, hle, hCi⟩ := rdB_at hr k hlt
      have hki := hm.out _ (rl_mem hlt)
      obtain ⟨hx9, hf9⟩ := HO.cell k (by have := HL.out; omega)
      have HOH := Lib.hid HO
      clear HO
      go_wp2_with (first | (go_at_call 85; refine (laws_toFlitS (rl l k) Ai ci _ (by exact Kd.C_below hCi bel) hki).mono ?_; rintro e w1 ⟨hg1, hb1⟩; obtain ⟨v2, rfl, HO2⟩ := hg1; obtain ⟨A2, c2, rfl⟩ := Kd.R_slice HO2; obtain ⟨hc1, hf1, hz1⟩ := bcell hb1; (try simp only [szs] at hz1); have hb2 := (by first | exact bw_then hb2 hb1 | exact bw_then (bw_drewN _ hb2) hb1 | exact bw_then (bw_alloc _ hb2) hb1 | exact bw_then (bw_drew hb2) hb1 | exact bw_then HB hb1 | exact bw_then (bw_drewN _ HB) hb1 | exact bw_then (bw_alloc _ HB) hb1 | exact bw_then (bw_drew HB) hb1 | exact hb1); obtain ⟨hc2, hf2, hz2⟩ := bcell hb2; (try simp only [szs] at hz2); try (first | obtain ⟨hy1, hy2, hy3, hy4⟩ := lts4 hz2 | obtain ⟨hy1, hy2, hy3⟩ := lts3 hz2 | obtain ⟨hy1, hy2⟩ := lts2 hz2 | have hy1 := lts1 hz2); have hb9 := hb1))
      go_roundw
      case rel =>
        have hz3 := hb1.size
        have H2 := (HOH.out.below hb1).put k (by have := HL.out; omega) _ (rl l k) HO2 (Nat.le_refl _) (by omega) (by omega)
        exact ⟨k + 1, x.set k (rl l k), vs.set k (.slice A2 (rl l k).length c2), by go_num, by omega, Lib.hid (by rw [List.length_set]; exact HL.out), Lib.hid (upto (fun j hj => by rw [set_getB (by have := HL.out; omega) j (by have := HL.out; omega), if_neg (by omega)]; exact HA.out j hj) (by rw [set_getB (by have := HL.out; omega) k (by have := HL.out; omega), if_pos rfl])), by simpa only [szs] using H2, bw_set _ (bw_then HB hb1) (Nat.le_refl _), by simp only [szs]; omega⟩
      case measure => simp [intOf]; omega
    · go_wp2
      go_ret
      have e : x = l := same_getB HL.out (fun j hj => HA.out j (by omega))
      subst e
      exact ⟨⟨_, _, rfl, HO⟩, bel⟩
end Go.Proofs.YteeebfeljjghhaaGreat
/- Idle and stuck networks: both sides. -/
set_option linter.unusedVariables false
set_option linter.unusedSimpArgs false
namespace Go.Proofs.YteeebfeljjghhaaGreat
open Go.RowKit Go.Proofs.YteeebfeljjghhaaGreatW.PrintWords
open NoC

end Go.Proofs.YteeebfeljjghhaaGreat
/- Runs of a valid network: steps one after the other; no program, no memory. -/
set_option linter.unusedVariables false
set_option linter.unusedSimpArgs false
namespace Go.Proofs.YteeebfeljjghhaaGreat
open NoC
end Go.Proofs.YteeebfeljjghhaaGreat
