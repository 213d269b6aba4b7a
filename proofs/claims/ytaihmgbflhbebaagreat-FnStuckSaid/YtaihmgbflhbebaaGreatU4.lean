/- Lemmas for laws of this seat, for all inputs: CpW M4 MN Scal Mesh Tab. -/
import Derived.Test.YtaihmgbflhbebaaGreatU3
import Derived.ArgAppend
import Derived.Deep.Upon
import Derived.Test.YtaihmgbflhbebaaGreatProg
set_option linter.unusedVariables false
set_option linter.unusedSimpArgs false
namespace Go.Proofs.YtaihmgbflhbebaaGreat
open Go.RowKit Go.Proofs.YtaihmgbflhbebaaGreatW.PrintWords
open NoC
def Lit (e : Nat) (w : World) (g : Nat) : Prop := w.heap[g]? = some (.cells #[] e (0, 0))
theorem lit_new {e g : Nat} {w : World} (h : g = w.heap.size) : Lit e (w.alloc (.cells #[] e)) g := by subst h; exact blk_new w _
theorem lit_alloc {e g : Nat} {w : World} (o : Obj) (h : Lit e w g) : Lit e (w.alloc o) g := blk_alloc h o
theorem lit_drew {e g : Nat} {w : World} (h : Lit e w g) : Lit e w.drew g := h
structure Stp (w w1 : World) : Prop where
  h : Below w.heap.size w w1
theorem lit_stp {e g : Nat} {w w1 : World} (hs : Stp w w1) (h : Lit e w g) : Lit e w1 g := blk_below h hs.h
theorem R_lit {α : Type} (d : Kd α) {e g B : Nat} {w : World} (h : Lit e w g) (hB : B ≤ g) : d.R e w B (fun _ => True) (.slice (some ⟨g, 0, none⟩) 0 0) [] := by
  refine ⟨fun _ _ => trivial, [], ?_, Reps.none _ _⟩
  exact ⟨by simp, .inr ⟨g, 0, #[], rfl, hB, h, Nat.le_refl _, Nat.zero_le _, by simp, by simp⟩⟩
def At2 (g lo hi : Nat) (v : Value) : Prop := ∀ k, v.ownBlock = some k → k = g ∨ (lo ≤ k ∧ k < hi)
theorem apart_of {u v : Value} {p r : Nat → Prop} (hu : ∀ k, u.ownBlock = some k → p k) (hv : ∀ k, v.ownBlock = some k → r k) (h : ∀ k, p k → r k → False) : Apart u v := by
  cases e : u.ownBlock with
  | none => exact .inl e
  | some k =>
    right
    rw [e]
    intro e2
    exact h k (hu k e) (hv k e2.symm)
section
variable {ops : Array Oper} {rest : List Oper} {o : Oper} {a : Act} {Q : Exit → Act → World → Prop} {Kc : Act → World → Prop} {α : Type}
theorem run_copy (d : Kd α) {B : Nat} {W : World} (t ty e : TypeId) (z : Value) (bytes : Nat)
    (ht : Tryz.prog.underlying t = some (.slice e)) (hinfo : (Tryz.prog.info? e).map (fun i => (i.zero, i.size, i.bytes)) = some (some z, d.sz, bytes)) (hz : z.cells.size = d.sz) (hs0 : 0 < d.sz) (hb1 : bytes ≤ 1000)
    (hKM : ∀ (w1 : World) (b : Nat) (ok : Nat → Prop) x cs, d.K W x cs → d.M w1 b ok x cs) (hK1 : ∀ x cs, d.K W x cs → ∀ u ∈ cs, u.oneCell' = true)
    (g : Nat) (ys : List α) (A : Option Addr) (m c : Nat) (HL : Lit e W g) (hg : B ≤ g) (HR : d.C W A m ys) (hB : B ≤ W.heap.size) (hl : m ≤ 10000000) :
    ∃ v1 w1, (Builtin.append_ #[t, t] ty #[.slice (some ⟨g, 0, none⟩) 0 0, .slice A m c]).run Tryz.prog W = .ok v1 w1 ∧ d.R e w1 B (fun _ => True) v1 ys ∧ Below W.heap.size W w1 ∧ At2 g W.heap.size w1.heap.size v1 := by
  obtain ⟨i0, hi, hzz⟩ := Option.map_eq_some_iff.1 hinfo
  simp only [Prod.mk.injEq] at hzz
  obtain ⟨hz0, hz1, hz2⟩ := hzz
  have hm : ys.length = m := HR.1
  have nothing : ∀ (_ : m = 0), Src Tryz.prog i0.size t (.slice A m c) 0 [] W → ∃ v1 w1, (Builtin.append_ #[t, t] ty #[.slice (some ⟨g, 0, none⟩) 0 0, .slice A m c]).run Tryz.prog W = .ok v1 w1 ∧ d.R e w1 B (fun _ => True) v1 ys ∧ Below W.heap.size W w1 ∧ At2 g W.heap.size w1.heap.size v1 := by
    intro h0 hs
    obtain rfl : ys = [] := List.eq_nil_of_length_eq_zero (hm.trans h0)
    exact ⟨_, W, run_append_nothing W t t ty e i0 ht hi (some ⟨g, 0, none⟩) 0 0 (Nat.le_refl _) _ hs, R_lit d HL hg, Below.refl _ _, fun k hk => .inl (Option.some.inj hk).symm⟩
  rcases A with _ | ad
  · have h0 : m = 0 := by
      rcases Nat.eq_zero_or_pos m with h0 | h0
      · exact h0
      · obtain ⟨ad, h, _⟩ := HR.2.2 h0
        cases h
    subst h0
    exact nothing rfl (Src.ofNil W ht c)
  · by_cases h0 : m = 0
    · subst h0
      exact nothing rfl (Src.ofSlice W ht ad 0 c [] (by simp) (fun j u h => by simp at h) (fun u h => by cases h))
    · obtain ⟨news, hnr, hnc⟩ := ReadsRow.inner_ HR
      obtain ⟨v1, w1, hrun, hown, hgr⟩ := run_append_arg_grows (P := Tryz.prog) W t ty e i0 z d.sz bytes ht hi hz0 hz1 hz2 hz hs0 ⟨g, 0, none⟩ 0 0 [] (by simp) (fun j u h => by simp at h) ad m c news (by rw [hnr.1, hm]) hnc (by omega) (by simp only [maxLen]; omega) (by simp only [Nat.zero_add]; exact Nat.le_trans (Nat.mul_le_mul hl hb1) (by omega))
      have hb : Below W.heap.size W w1 := ⟨hgr.os, hgr.tape, hgr.output, hgr.size, fun i hi2 => hgr.block i hi2 (by simp)⟩
      rw [List.nil_append, Nat.zero_add] at hown
      refine ⟨v1, w1, hrun, ⟨fun _ _ => trivial, news, ?_, hnr.imp_ (fun p cs hp => hKM _ _ _ p cs hp)⟩, hb, fun k hk => .inr ⟨own_base hown k hk, own_lt hown k hk⟩⟩
      rw [hm]
      exact own_weaken hown hB
theorem copy_row (d : Kd α) {B : Nat} {W : World} (hgd : o.guard = none) (s x : Operand) (t e : TypeId) (z : Value) (bytes : Nat)
    (ho : o.op = .call { callee := .builtin .append, args := #[s, x], argTypes := #[t, t] })
    (ht : Tryz.prog.underlying t = some (.slice e)) (hinfo : (Tryz.prog.info? e).map (fun i => (i.zero, i.size, i.bytes)) = some (some z, d.sz, bytes)) (hz : z.cells.size = d.sz) (hs0 : 0 < d.sz) (hb1 : bytes ≤ 1000)
    (hKM : ∀ (w1 : World) (b : Nat) (ok : Nat → Prop) x cs, d.K W x cs → d.M w1 b ok x cs) (hK1 : ∀ x cs, d.K W x cs → ∀ u ∈ cs, u.oneCell' = true)
    (g : Nat) (ys : List α) (A : Option Addr) (m c : Nat) (hs : a.eval s = .slice (some ⟨g, 0, none⟩) 0 0) (hx : a.eval x = .slice A m c)
    (HL : Lit e W g) (hg : B ≤ g) (HR : d.C W A m ys) (hB : B ≤ W.heap.size) (hl : m ≤ 10000000)
    (h : ∀ v1 w1, d.R e w1 B (fun _ => True) v1 ys → Below W.heap.size W w1 → At2 g W.heap.size w1.heap.size v1 → wpList Tryz.prog ops Q rest (a.put o.dst v1) w1) : wpList Tryz.prog ops Q (o :: rest) a W := by
  obtain ⟨v1, w1, hr1, h1, h2, h3⟩ := run_copy d t o.type e z bytes ht hinfo hz hs0 hb1 hKM hK1 g ys A m c HL hg HR hB hl
  refine wpList_plain hgd fun K hK => ?_
  unfold Oper.wp execOp
  simp only [ho, resolve, invoke, builtin, Sem.run_bind, Sem.run_pure, Result.andThen_ok, List.map_toArray, List.map_cons, List.map_nil, hs, hx, hr1]
  exact hK _ _ (h v1 w1 h1 h2 h3)
theorem copy_row_step (d : Kd α) {B : Nat} {W : World} {Q' : Exit → Act → World → Prop} {E : Prop} (hw : Region.wanted o (yielded ops a.tmps) = true) (s x : Operand) (t e : TypeId) (z : Value) (bytes : Nat)
    (ho : o.op = .call { callee := .builtin .append, args := #[s, x], argTypes := #[t, t] })
    (ht : Tryz.prog.underlying t = some (.slice e)) (hinfo : (Tryz.prog.info? e).map (fun i => (i.zero, i.size, i.bytes)) = some (some z, d.sz, bytes)) (hz : z.cells.size = d.sz) (hs0 : 0 < d.sz) (hb1 : bytes ≤ 1000)
    (hKM : ∀ (w1 : World) (b : Nat) (ok : Nat → Prop) x cs, d.K W x cs → d.M w1 b ok x cs) (hK1 : ∀ x cs, d.K W x cs → ∀ u ∈ cs, u.oneCell' = true)
    (g : Nat) (ys : List α) (A : Option Addr) (m c : Nat) (hs : a.eval s = .slice (some ⟨g, 0, none⟩) 0 0) (hx : a.eval x = .slice A m c)
    (HL : Lit e W g) (hg : B ≤ g) (HR : d.C W A m ys) (hB : B ≤ W.heap.size) (hl : m ≤ 10000000)
    (h : ∀ v1 w1, d.R e w1 B (fun _ => True) v1 ys → Below W.heap.size W w1 → At2 g W.heap.size w1.heap.size v1 → Kc (a.put o.dst v1) w1) : if Region.wanted o (yielded ops a.tmps) = true then Oper.wp Tryz.prog o a W Kc Q' else E := by
  obtain ⟨v1, w1, hr1, h1, h2, h3⟩ := run_copy d t o.type e z bytes ht hinfo hz hs0 hb1 hKM hK1 g ys A m c HL hg HR hB hl
  rw [if_pos hw]
  unfold Oper.wp execOp
  simp only [ho, resolve, invoke, builtin, Sem.run_bind, Sem.run_pure, Result.andThen_ok, List.map_toArray, List.map_cons, List.map_nil, hs, hx, hr1]
  exact h v1 w1 h1 h2 h3
theorem KM_int {W : World} : ∀ (w1 : World) (b : Nat) (ok : Nat → Prop) (x : Int) cs, (Kd.int .i64).K W x cs → (Kd.int .i64).M w1 b ok x cs := fun _ _ _ _ _ h => h
theorem K1_int {W : World} : ∀ (x : Int) cs, (Kd.int .i64).K W x cs → ∀ u ∈ cs, u.oneCell' = true := fun _ _ h => (Kd.int .i64).K_one h
theorem KM_F {W : World} : ∀ (w1 : World) (b : Nat) (ok : Nat → Prop) (x : Flit) cs, kF.K W x cs → kF.M w1 b ok x cs := fun _ _ _ _ _ h => h
theorem K1_F {W : World} : ∀ (x : Flit) cs, kF.K W x cs → ∀ u ∈ cs, u.oneCell' = true := fun _ _ h => kF.K_one h
theorem copy_int {B : Nat} {W : World} (hgd : o.guard = none) (s x : Operand)
    (ho : o.op = .call { callee := .builtin .append, args := #[s, x], argTypes := #[26, 26] })
    (g : Nat) (ys : List Int) (A : Option Addr) (c : Nat) (hs : a.eval s = .slice (some ⟨g, 0, none⟩) 0 0) (hx : a.eval x = .slice A ys.length c)
    (HL : Lit 3 W g) (hg : B ≤ g) (HR : (Kd.int .i64).C W A ys.length ys) (hB : B ≤ W.heap.size) (hl : ys.length ≤ 10000000)
    (h : ∀ v1 w1, (Kd.int .i64).R 3 w1 B (fun _ => True) v1 ys → Below W.heap.size W w1 → At2 g W.heap.size w1.heap.size v1 → wpList Tryz.prog ops Q rest (a.put o.dst v1) w1) : wpList Tryz.prog ops Q (o :: rest) a W :=
  copy_row (Kd.int .i64) hgd s x 26 3 (.int .i64 0) 8 ho Tryz.underlying26 info_int rfl (by decide) (by omega) KM_int K1_int g ys A ys.length c hs hx HL hg HR hB hl h
theorem copyS_int {B : Nat} {W : World} {Q' : Exit → Act → World → Prop} {E : Prop} (hw : Region.wanted o (yielded ops a.tmps) = true) (s x : Operand)
    (ho : o.op = .call { callee := .builtin .append, args := #[s, x], argTypes := #[26, 26] })
    (g : Nat) (ys : List Int) (A : Option Addr) (c : Nat) (hs : a.eval s = .slice (some ⟨g, 0, none⟩) 0 0) (hx : a.eval x = .slice A ys.length c)
    (HL : Lit 3 W g) (hg : B ≤ g) (HR : (Kd.int .i64).C W A ys.length ys) (hB : B ≤ W.heap.size) (hl : ys.length ≤ 10000000)
    (h : ∀ v1 w1, (Kd.int .i64).R 3 w1 B (fun _ => True) v1 ys → Below W.heap.size W w1 → At2 g W.heap.size w1.heap.size v1 → Kc (a.put o.dst v1) w1) : if Region.wanted o (yielded ops a.tmps) = true then Oper.wp Tryz.prog o a W Kc Q' else E :=
  copy_row_step (Kd.int .i64) hw s x 26 3 (.int .i64 0) 8 ho Tryz.underlying26 info_int rfl (by decide) (by omega) KM_int K1_int g ys A ys.length c hs hx HL hg HR hB hl h
theorem copy_F {B : Nat} {W : World} (hgd : o.guard = none) (s x : Operand)
    (ho : o.op = .call { callee := .builtin .append, args := #[s, x], argTypes := #[43, 43] })
    (g : Nat) (ys : List Flit) (A : Option Addr) (c : Nat) (hs : a.eval s = .slice (some ⟨g, 0, none⟩) 0 0) (hx : a.eval x = .slice A ys.length c)
    (HL : Lit 80 W g) (hg : B ≤ g) (HR : kF.C W A ys.length ys) (hB : B ≤ W.heap.size) (hl : ys.length ≤ 10000000)
    (h : ∀ v1 w1, kF.R 80 w1 B (fun _ => True) v1 ys → Below W.heap.size W w1 → At2 g W.heap.size w1.heap.size v1 → wpList Tryz.prog ops Q rest (a.put o.dst v1) w1) : wpList Tryz.prog ops Q (o :: rest) a W :=
  copy_row kF hgd s x 43 80 (.agg #[.int .i64 0, .int .i64 0, .int .i64 0, .bool false, .bool false]) 32 ho Tryz.underlying43 info_F rfl (by decide) (by omega) KM_F K1_F g ys A ys.length c hs hx HL hg HR hB hl h
theorem copyS_F {B : Nat} {W : World} {Q' : Exit → Act → World → Prop} {E : Prop} (hw : Region.wanted o (yielded ops a.tmps) = true) (s x : Operand)
    (ho : o.op = .call { callee := .builtin .append, args := #[s, x], argTypes := #[43, 43] })
    (g : Nat) (ys : List Flit) (A : Option Addr) (c : Nat) (hs : a.eval s = .slice (some ⟨g, 0, none⟩) 0 0) (hx : a.eval x = .slice A ys.length c)
    (HL : Lit 80 W g) (hg : B ≤ g) (HR : kF.C W A ys.length ys) (hB : B ≤ W.heap.size) (hl : ys.length ≤ 10000000)
    (h : ∀ v1 w1, kF.R 80 w1 B (fun _ => True) v1 ys → Below W.heap.size W w1 → At2 g W.heap.size w1.heap.size v1 → Kc (a.put o.dst v1) w1) : if Region.wanted o (yielded ops a.tmps) = true then Oper.wp Tryz.prog o a W Kc Q' else E :=
  copy_row_step kF hw s x 43 80 (.agg #[.int .i64 0, .int .i64 0, .int .i64 0, .bool false, .bool false]) 32 ho Tryz.underlying43 info_F rfl (by decide) (by omega) KM_F K1_F g ys A ys.length c hs hx HL hg HR hB hl h
end
end Go.Proofs.YtaihmgbflhbebaaGreat
namespace NoC
inductive Path (m : Mesh) (t : List Int) (b : Int) : Int → List Int → Prop
  | here (h : entry m t b b = 4) : Path m t b b []
  | step {a : Int} {ws : List Int} (h4 : ¬ entry m t a b = 4) (hi : inside (entry m t a b) 0 3 = true) (hl : live m (4 * a + entry m t a b) = true) (h : Path m t b (nextNode m.g a (entry m t a b)) ws) : Path m t b a ((4 * a + entry m t a b) :: ws)
theorem Path.det {m : Mesh} {t : List Int} {b a : Int} {ws : List Int} (h : Path m t b a ws) : ∀ {vs : List Int}, Path m t b a vs → ws = vs := by
  induction h with
  | here h =>
    intro vs hv
    cases hv
    · rfl
    · rename_i h4 _ _ _
      first | exact absurd h h4 | exact absurd h (by assumption)
  | step h4 hi hl h ih =>
    intro vs hv
    cases hv
    · rename_i h'
      exact absurd h' h4
    · rename_i h'
      rw [ih h']
theorem Path.suffix {m : Mesh} {t : List Int} {b a : Int} {ws : List Int} (h : Path m t b a ws) : ∀ {u v : List Int} {c : Int}, ws = u ++ c :: v → Path m t b (c / 4) (c :: v) := by
  induction h with
  | here h => intro u v c e; simp at e
  | @step a ws h4 hi hl h ih =>
    intro u v c e
    cases u with
    | nil =>
      simp only [List.nil_append, List.cons.injEq] at e
      obtain ⟨rfl, rfl⟩ := e
      rw [inside_iff] at hi
      rw [show (4 * a + entry m t a b) / 4 = a by omega]
      exact Path.step h4 (inside_iff.2 hi) hl h
    | cons x u =>
      simp only [List.cons_append, List.cons.injEq] at e
      exact ih e.2
theorem Path.nodup {m : Mesh} {t : List Int} {b a : Int} {ws : List Int} (h : Path m t b a ws) : ws.Nodup := by
  induction h with
  | here h => simp
  | @step a ws h4 hi hl h ih =>
    rw [List.nodup_cons]
    refine ⟨fun hm => ?_, ih⟩
    obtain ⟨u, v, e⟩ := List.append_of_mem hm
    have hp := Path.step h4 hi hl h
    have hs := hp.suffix (u := (4 * a + entry m t a b) :: u) (v := v) (c := 4 * a + entry m t a b) (by rw [e]; simp)
    rw [inside_iff] at hi
    rw [show (4 * a + entry m t a b) / 4 = a by omega] at hs
    have := hp.det hs
    simp only [List.cons.injEq, true_and] at this
    rw [this] at e
    have := congrArg List.length e
    simp at this
    omega
theorem Path.live {m : Mesh} {t : List Int} {b a : Int} {ws : List Int} (h : Path m t b a ws) : ∀ c ∈ ws, NoC.live m c = true := by
  induction h with
  | here h => simp
  | step h4 hi hl h ih =>
    intro c hc
    rcases List.mem_cons.1 hc with rfl | hc
    · exact hl
    · exact ih c hc
theorem sized_count {m : Mesh} {t : List Int} (h : sized m t = true) : 0 < nodeCount m.g := by
  have h1 := (sized_iff.1 h).1
  unfold meshOk at h1
  rw [Bool.and_eq_true] at h1
  have hg := h1.1
  unfold nodeCount
  rw [if_pos hg]
  simp only [gridOk, inside, Bool.and_eq_true, decide_eq_true_eq] at hg
  obtain ⟨⟨a, b⟩, c, d⟩ := hg
  have := Int.mul_le_mul a c (by omega) (by omega)
  omega
def flitOk (g : Grid) (f : Flit) : Bool := isNode g f.dst && inside f.cls 0 1
def areFl (g : Grid) (l : List Flit) : Bool := l.all (flitOk g)
def clsOnly (l : List Flit) (c : Int) : List Flit := l.filter (fun f => f.cls == c)
def bufOk (g : Grid) (i : Nat) (l : List Flit) : Bool := decide (l.length ≤ 3) && l.all (fun f => f.cls == ((i % 2 : Nat) : Int)) && areFl g l
def srcOk (g : Grid) (l : List Flit) : Bool := decide (l.length ≤ 60) && areFl g l
def shapeOk (n : Net) : Bool :=
  decide ((n.bufs.length : Int) = 10 * nodeCount n.mesh.g) && decide ((n.owners.length : Int) = 10 * nodeCount n.mesh.g) && decide ((n.turns.length : Int) = 5 * nodeCount n.mesh.g) && decide ((n.srcs.length : Int) = nodeCount n.mesh.g) && decide ((n.arrs.length : Int) = nodeCount n.mesh.g)
def netOk (n : Net) : Bool :=
  classesOk n.mesh n.pa n.pb && shapeOk n && allI n.bufs.length (fun i => bufOk n.mesh.g i (rl n.bufs i)) && allI n.srcs.length (fun i => srcOk n.mesh.g (rl n.srcs i)) && allI n.owners.length (fun i => inside (ri n.owners i) (-1) 4) && allI n.turns.length (fun i => inside (ri n.turns i) 0 9) && inside n.time 0 1000000
theorem rf_get (l : List Flit) (k : Nat) (h : k < l.length) : rf l (k : Int) = l[k] := by
  simp [rf, List.getD_eq_getElem?_getD, h]
theorem areFl_no {g : Grid} {l : List Flit} (k : Nat) (hk : k < l.length) (h : flitOk g (rf l k) = false) : areFl g l = false := by
  rw [rf_get l k hk] at h
  unfold areFl
  rw [Bool.eq_false_iff]
  intro ha
  rw [List.all_eq_true] at ha
  rw [ha _ (List.getElem_mem hk)] at h
  cases h
theorem areFl_yes {g : Grid} {l : List Flit} (h : ∀ k : Nat, k < l.length → flitOk g (rf l k) = true) : areFl g l = true := by
  unfold areFl
  rw [List.all_eq_true]
  intro p hp
  obtain ⟨k, hk, rfl⟩ := List.getElem_of_mem hp
  have := h k hk
  rwa [rf_get l k hk] at this
theorem clsOnly_len (l : List Flit) (c : Int) : ((clsOnly l c).length == l.length) = l.all (fun f => f.cls == c) := by
  rw [Bool.eq_iff_iff, beq_iff_eq, List.all_eq_true]
  unfold clsOnly
  rw [List.length_filter_eq_length_iff]
theorem clsOnly_take {l : List Flit} {c : Int} (k : Nat) (hk : k < l.length) : clsOnly (l.take (k + 1)) c = if (rf l k).cls == c then clsOnly (l.take k) c ++ [rf l k] else clsOnly (l.take k) c := by
  rw [rf_get l k hk, List.take_succ_eq_append_getElem hk]
  unfold clsOnly
  rw [List.filter_append]
  split <;> simp_all
theorem netOk_parts {n : Net} (h : netOk n = true) : classesOk n.mesh n.pa n.pb = true ∧ (n.bufs.length : Int) = 10 * nodeCount n.mesh.g ∧ (n.owners.length : Int) = 10 * nodeCount n.mesh.g ∧ (n.turns.length : Int) = 5 * nodeCount n.mesh.g ∧ (n.srcs.length : Int) = nodeCount n.mesh.g ∧ (n.arrs.length : Int) = nodeCount n.mesh.g ∧ (∀ i, i < n.bufs.length → bufOk n.mesh.g i (rl n.bufs i) = true) ∧ (∀ i, i < n.srcs.length → srcOk n.mesh.g (rl n.srcs i) = true) ∧ (∀ i : Nat, i < n.owners.length → inside (ri n.owners i) (-1) 4 = true) ∧ (∀ i : Nat, i < n.turns.length → inside (ri n.turns i) 0 9 = true) ∧ inside n.time 0 1000000 = true := by
  simp only [netOk, shapeOk, Bool.and_eq_true, decide_eq_true_eq, allI_iff] at h
  obtain ⟨⟨⟨⟨⟨⟨h1, ⟨⟨⟨⟨s1, s2⟩, s3⟩, s4⟩, s5⟩⟩, h2⟩, h3⟩, h4⟩, h5⟩, h6⟩ := h
  exact ⟨h1, s1, s2, s3, s4, s5, h2, h3, h4, h5, h6⟩
end NoC
namespace Go.Proofs.YtaihmgbflhbebaaGreat
open Go.RowKit
open NoC
theorem grid_bounds {g : Grid} (h : gridOk g = true) : 1 ≤ g.w ∧ g.w ≤ 4 ∧ 1 ≤ g.h ∧ g.h ≤ 4 ∧ 1 ≤ g.w * g.h ∧ g.w * g.h ≤ 16 := by
  simp only [gridOk, inside, Bool.and_eq_true, decide_eq_true_eq] at h
  obtain ⟨⟨a, b⟩, c, d⟩ := h
  refine ⟨a, b, c, d, ?_, ?_⟩
  · have := Int.mul_le_mul a c (by omega) (by omega); omega
  · have := Int.mul_le_mul b d (by omega) (by omega); omega
theorem count_bounds (g : Grid) : 0 ≤ nodeCount g ∧ nodeCount g ≤ 16 := by
  unfold nodeCount
  split
  · rename_i h; have := grid_bounds h; omega
  · omega
theorem node_bounds {g : Grid} {a : Int} (h : isNode g a = true) : gridOk g = true ∧ 0 ≤ a ∧ a < g.w * g.h ∧ a ≤ 15 := by
  simp only [isNode, inside, Bool.and_eq_true, decide_eq_true_eq] at h
  cases hg : gridOk g
  · simp [nodeCount, hg] at h; omega
  · have := grid_bounds hg
    simp only [nodeCount, hg, if_true] at h
    exact ⟨rfl, by omega, by omega, by omega⟩
theorem inside_bounds {n lo hi : Int} (h : inside n lo hi = true) : lo ≤ n ∧ n ≤ hi := by
  simpa [inside] using h
theorem div_bounds {g : Grid} {a : Int} (h : isNode g a = true) : 0 ≤ a / g.w ∧ a / g.w ≤ 15 ∧ 0 ≤ a % g.w ∧ a % g.w ≤ 3 := by
  obtain ⟨h1, h2, h3, h4⟩ := node_bounds h
  obtain ⟨a1, a2, a3, a4, a5, a6⟩ := grid_bounds h1
  have := Int.emod_nonneg a (show g.w ≠ 0 by omega)
  have := Int.emod_lt_of_pos a (show 0 < g.w by omega)
  have := Int.ediv_nonneg h2 (show 0 ≤ g.w by omega)
  have := Int.ediv_le_self g.w h2
  omega

theorem impl_inside (n lo hi : Int) (w : World) : Calls Tryz.prog 52 #[.int .i64 n, .int .i64 lo, .int .i64 hi] w fun e w' => e = .returned (.bool (inside n lo hi)) ∧ w = w' := by
  go_enter Tryz.func52, Tryz.ntmps52
  by_cases h : lo ≤ n
  · have h1 : decide (lo ≤ n) = true := decide_eq_true h
    go_wp2
    go_ret
    exact ⟨by simp [inside, h], rfl⟩
  · have h1 : decide (lo ≤ n) = false := decide_eq_false h
    go_wp2
    go_ret
    exact ⟨by simp [inside]; omega, rfl⟩
theorem spec_l01In (n lo hi : Int) (w : World) : Calls Tryz.prog 132 #[.int .i64 n, .int .i64 lo, .int .i64 hi] w fun e w' => e = .returned (.bool (inside n lo hi)) ∧ w = w' := by
  go_enter Tryz.func132, Tryz.ntmps132
  by_cases h : lo ≤ n
  · have h1 : decide (lo ≤ n) = true := decide_eq_true h
    go_wp2
    go_ret
    exact ⟨by simp [inside, h], rfl⟩
  · have h1 : decide (lo ≤ n) = false := decide_eq_false h
    go_wp2
    go_ret
    exact ⟨by simp [inside]; omega, rfl⟩
theorem impl_GridOk (g : Grid) (w : World) : Calls Tryz.prog 79 #[.agg #[.int .i64 g.w, .int .i64 g.h]] w fun e w' => e = .returned (.bool (gridOk g)) ∧ Below w.heap.size w w' := by
  go_enter Tryz.func79, Tryz.ntmps79
  cases h : inside g.w 1 4
  all_goals
    go_wp2_with (go_at_call 52; refine (impl_inside _ _ _ _).mono ?_; rintro e w' ⟨rfl, rfl⟩)
    go_ret
    exact ⟨by simp [gridOk, h], bel⟩
theorem impl_NodeCount (g : Grid) (w : World) : Calls Tryz.prog 48 #[.agg #[.int .i64 g.w, .int .i64 g.h]] w fun e w' => e = .returned (.int .i64 (nodeCount g)) ∧ Below w.heap.size w w' := by
  go_enter Tryz.func48, Tryz.ntmps48
  cases h : gridOk g
  · go_wp2_with (go_at_call 79; refine (impl_GridOk g _).mono ?_; rintro e w1 ⟨rfl, hb1⟩; obtain ⟨hc1, hf1, hz1⟩ := bcell hb1; (try simp only [szs] at hz1); have hb2 := far2; obtain ⟨hc2, hf2, hz2⟩ := bcell hb2; (try simp only [szs] at hz2); try (first | obtain ⟨hy1, hy2, hy3, hy4⟩ := lts4 hz2 | obtain ⟨hy1, hy2, hy3⟩ := lts3 hz2 | obtain ⟨hy1, hy2⟩ := lts2 hz2 | have hy1 := lts1 hz2); have hb9 := hb1)
    go_ret
    exact ⟨by simp [nodeCount, h], bel⟩
  · obtain ⟨a1, a2, a3, a4, a5, a6⟩ := grid_bounds h
    go_wp2_with (go_at_call 79; refine (impl_GridOk g _).mono ?_; rintro e w1 ⟨rfl, hb1⟩; obtain ⟨hc1, hf1, hz1⟩ := bcell hb1; (try simp only [szs] at hz1); have hb2 := far2; obtain ⟨hc2, hf2, hz2⟩ := bcell hb2; (try simp only [szs] at hz2); try (first | obtain ⟨hy1, hy2, hy3, hy4⟩ := lts4 hz2 | obtain ⟨hy1, hy2, hy3⟩ := lts3 hz2 | obtain ⟨hy1, hy2⟩ := lts2 hz2 | have hy1 := lts1 hz2); have hb9 := hb1)
    go_ret
    exact ⟨by simp [nodeCount, h], bel⟩
theorem impl_NodeAt (g : Grid) (x y : Int) (w : World) : Calls Tryz.prog 84 #[.agg #[.int .i64 g.w, .int .i64 g.h], .int .i64 x, .int .i64 y] w fun e w' => e = .returned (.int .i64 (nodeAt g x y)) ∧ Below w.heap.size w w' := by
  go_enter Tryz.func84, Tryz.ntmps84
  cases h : gridOk g
  · go_wp2_with (first | (go_at_call 79; refine (impl_GridOk g _).mono ?_; rintro e w1 ⟨rfl, hb1⟩; obtain ⟨hc1, hf1, hz1⟩ := bcell hb1; (try simp only [szs] at hz1); have hb2 := far2; obtain ⟨hc2, hf2, hz2⟩ := bcell hb2; (try simp only [szs] at hz2); try (first | obtain ⟨hy1, hy2, hy3, hy4⟩ := lts4 hz2 | obtain ⟨hy1, hy2, hy3⟩ := lts3 hz2 | obtain ⟨hy1, hy2⟩ := lts2 hz2 | have hy1 := lts1 hz2); have hb9 := hb1) | (go_at_call 52; refine (impl_inside _ _ _ _).mono ?_; rintro e w' ⟨rfl, rfl⟩))
    go_ret
    exact ⟨by simp [nodeAt, h], bel⟩
  · obtain ⟨a1, a2, a3, a4, a5, a6⟩ := grid_bounds h
    cases hx : inside x 0 (g.w - 1)
    · go_wp2_with (first | (go_at_call 79; refine (impl_GridOk g _).mono ?_; rintro e w1 ⟨rfl, hb1⟩; obtain ⟨hc1, hf1, hz1⟩ := bcell hb1; (try simp only [szs] at hz1); have hb2 := far2; obtain ⟨hc2, hf2, hz2⟩ := bcell hb2; (try simp only [szs] at hz2); try (first | obtain ⟨hy1, hy2, hy3, hy4⟩ := lts4 hz2 | obtain ⟨hy1, hy2, hy3⟩ := lts3 hz2 | obtain ⟨hy1, hy2⟩ := lts2 hz2 | have hy1 := lts1 hz2); have hb9 := hb1) | (go_at_call 52; refine (impl_inside _ _ _ _).mono ?_; rintro e w' ⟨rfl, rfl⟩))
      go_ret
      exact ⟨by simp [nodeAt, h, hx], bel⟩
    · cases hy : inside y 0 (g.h - 1)
      · go_wp2_with (first | (go_at_call 79; refine (impl_GridOk g _).mono ?_; rintro e w1 ⟨rfl, hb1⟩; obtain ⟨hc1, hf1, hz1⟩ := bcell hb1; (try simp only [szs] at hz1); have hb2 := far2; obtain ⟨hc2, hf2, hz2⟩ := bcell hb2; (try simp only [szs] at hz2); try (first | obtain ⟨hy1, hy2, hy3, hy4⟩ := lts4 hz2 | obtain ⟨hy1, hy2, hy3⟩ := lts3 hz2 | obtain ⟨hy1, hy2⟩ := lts2 hz2 | have hy1 := lts1 hz2); have hb9 := hb1) | (go_at_call 52; refine (impl_inside _ _ _ _).mono ?_; rintro e w' ⟨rfl, rfl⟩))
        go_ret
        exact ⟨by simp [nodeAt, h, hx, hy], bel⟩
      · obtain ⟨b1, b2⟩ := inside_bounds hy
        obtain ⟨b3, b4⟩ := inside_bounds hx
        have b5 : 0 ≤ y * g.w := Int.mul_nonneg b1 (by omega)
        have b6 : y * g.w ≤ 12 := by have := Int.mul_le_mul (show y ≤ 3 by omega) a2 (by omega) (by omega); omega
        go_wp2_with (first | (go_at_call 79; refine (impl_GridOk g _).mono ?_; rintro e w1 ⟨rfl, hb1⟩; obtain ⟨hc1, hf1, hz1⟩ := bcell hb1; (try simp only [szs] at hz1); have hb2 := far2; obtain ⟨hc2, hf2, hz2⟩ := bcell hb2; (try simp only [szs] at hz2); try (first | obtain ⟨hy1, hy2, hy3, hy4⟩ := lts4 hz2 | obtain ⟨hy1, hy2, hy3⟩ := lts3 hz2 | obtain ⟨hy1, hy2⟩ := lts2 hz2 | have hy1 := lts1 hz2); have hb9 := hb1) | (go_at_call 52; refine (impl_inside _ _ _ _).mono ?_; rintro e w' ⟨rfl, rfl⟩))
        go_ret
        exact ⟨by simp [nodeAt, h, hx, hy], bel⟩
theorem impl_isNode (g : Grid) (a : Int) (w : World) : Calls Tryz.prog 81 #[.agg #[.int .i64 g.w, .int .i64 g.h], .int .i64 a] w fun e w' => e = .returned (.bool (isNode g a)) ∧ Below w.heap.size w w' := by
  obtain ⟨a1, a2⟩ := count_bounds g
  go_enter Tryz.func81, Tryz.ntmps81
  go_wp2_with (first | (go_at_call 48; refine (impl_NodeCount g _).mono ?_; rintro e w1 ⟨rfl, hb1⟩; obtain ⟨hc1, hf1, hz1⟩ := bcell hb1; (try simp only [szs] at hz1); have hb2 := far2; obtain ⟨hc2, hf2, hz2⟩ := bcell hb2; (try simp only [szs] at hz2); try (first | obtain ⟨hy1, hy2, hy3, hy4⟩ := lts4 hz2 | obtain ⟨hy1, hy2, hy3⟩ := lts3 hz2 | obtain ⟨hy1, hy2⟩ := lts2 hz2 | have hy1 := lts1 hz2); have hb9 := hb1) | (go_at_call 52; refine (impl_inside _ _ _ _).mono ?_; rintro e w' ⟨rfl, rfl⟩))
  go_ret
  exact ⟨rfl, bel⟩
theorem impl_NextNode (g : Grid) (a p : Int) (w : World) : Calls Tryz.prog 58 #[.agg #[.int .i64 g.w, .int .i64 g.h], .int .i64 a, .int .i64 p] w fun e w' => e = .returned (.int .i64 (nextNode g a p)) ∧ Below w.heap.size w w' := by
  go_enter Tryz.func58, Tryz.ntmps58
  cases h : isNode g a
  · go_wp2_with (go_at_call 81; refine (impl_isNode g _ _).mono ?_; rintro e w1 ⟨rfl, hb1⟩; obtain ⟨hc1, hf1, hz1⟩ := bcell hb1; (try simp only [szs] at hz1); have hb2 := far2; obtain ⟨hc2, hf2, hz2⟩ := bcell hb2; (try simp only [szs] at hz2); try (first | obtain ⟨hy1, hy2, hy3, hy4⟩ := lts4 hz2 | obtain ⟨hy1, hy2, hy3⟩ := lts3 hz2 | obtain ⟨hy1, hy2⟩ := lts2 hz2 | have hy1 := lts1 hz2); have hb9 := hb1)
    go_ret
    exact ⟨by simp [nextNode, h], bel⟩
  · obtain ⟨c1, c2, c3, c4⟩ := node_bounds h
    obtain ⟨a1, a2, a3, a4, a5, a6⟩ := grid_bounds c1
    obtain ⟨d1, d2, d3, d4⟩ := div_bounds h
    clear c1
    have hp : p = 0 ∨ p = 1 ∨ p = 2 ∨ p = 3 ∨ p = 4 ∨ ((p == 0) = false ∧ (p == 1) = false ∧ (p == 2) = false ∧ (p == 3) = false ∧ (p == 4) = false) := by
      simp only [beq_eq_false_iff_ne]
      omega
    rcases hp with rfl | rfl | rfl | rfl | rfl | ⟨f0, f1, f2, f3, f4⟩
    all_goals
      go_wp2_with (first | (go_at_call 81; refine (impl_isNode g _ _).mono ?_; rintro e w1 ⟨rfl, hb1⟩; obtain ⟨hc1, hf1, hz1⟩ := bcell hb1; (try simp only [szs] at hz1); have hb2 := far2; obtain ⟨hc2, hf2, hz2⟩ := bcell hb2; (try simp only [szs] at hz2); try (first | obtain ⟨hy1, hy2, hy3, hy4⟩ := lts4 hz2 | obtain ⟨hy1, hy2, hy3⟩ := lts3 hz2 | obtain ⟨hy1, hy2⟩ := lts2 hz2 | have hy1 := lts1 hz2); have hb9 := hb1) | (go_at_call 84; refine (impl_NodeAt g _ _ _).mono ?_; rintro e w1 ⟨rfl, hb1⟩; obtain ⟨hc1, hf1, hz1⟩ := bcell hb1; (try simp only [szs] at hz1); have hb2 := far2; obtain ⟨hc2, hf2, hz2⟩ := bcell hb2; (try simp only [szs] at hz2); try (first | obtain ⟨hy1, hy2, hy3, hy4⟩ := lts4 hz2 | obtain ⟨hy1, hy2, hy3⟩ := lts3 hz2 | obtain ⟨hy1, hy2⟩ := lts2 hz2 | have hy1 := lts1 hz2); have hb9 := hb1))
      try (go_quiet (fail); go_wp2_with (first | (go_at_call 81; refine (impl_isNode g _ _).mono ?_; rintro e w1 ⟨rfl, hb1⟩; obtain ⟨hc1, hf1, hz1⟩ := bcell hb1; (try simp only [szs] at hz1); have hb2 := far2; obtain ⟨hc2, hf2, hz2⟩ := bcell hb2; (try simp only [szs] at hz2); try (first | obtain ⟨hy1, hy2, hy3, hy4⟩ := lts4 hz2 | obtain ⟨hy1, hy2, hy3⟩ := lts3 hz2 | obtain ⟨hy1, hy2⟩ := lts2 hz2 | have hy1 := lts1 hz2); have hb9 := hb1) | (go_at_call 84; refine (impl_NodeAt g _ _ _).mono ?_; rintro e w1 ⟨rfl, hb1⟩; obtain ⟨hc1, hf1, hz1⟩ := bcell hb1; (try simp only [szs] at hz1); have hb2 := far2; obtain ⟨hc2, hf2, hz2⟩ := bcell hb2; (try simp only [szs] at hz2); try (first | obtain ⟨hy1, hy2, hy3, hy4⟩ := lts4 hz2 | obtain ⟨hy1, hy2, hy3⟩ := lts3 hz2 | obtain ⟨hy1, hy2⟩ := lts2 hz2 | have hy1 := lts1 hz2); have hb9 := hb1)))
      go_ret
      exact ⟨by first | (simp [nextNode, h]; done) | (simp only [beq_eq_false_iff_ne] at f0 f1 f2 f3 f4; simp [nextNode, h, f0, f1, f2, f3, f4]), bel⟩
theorem impl_Opposite (p : Int) (w : World) : Calls Tryz.prog 59 #[.int .i64 p] w fun e w' => e = .returned (.int .i64 (opposite p)) ∧ Below w.heap.size w w' := by
  go_enter Tryz.func59, Tryz.ntmps59
  by_cases e4 : p = 4
  · subst e4
    go_wp2_with (go_at_call 52; refine (impl_inside _ _ _ _).mono ?_; rintro e w' ⟨rfl, rfl⟩)
    go_ret
    exact ⟨by simp [opposite], bel⟩
  · have f4 : (p == 4) = false := by simpa using e4
    cases h : inside p 0 3
    · go_wp2_with (go_at_call 52; refine (impl_inside _ _ _ _).mono ?_; rintro e w' ⟨rfl, rfl⟩)
      go_ret
      exact ⟨by simp [opposite, e4, h], bel⟩
    · obtain ⟨b1, b2⟩ := inside_bounds h
      go_wp2_with (go_at_call 52; refine (impl_inside _ _ _ _).mono ?_; rintro e w' ⟨rfl, rfl⟩)
      go_ret
      exact ⟨by simp [opposite, e4, h], bel⟩
theorem spec_GridOk (g : Grid) (w : World) : Calls Tryz.prog 126 #[.agg #[.int .i64 g.w, .int .i64 g.h]] w fun e w' => e = .returned (.bool (gridOk g)) ∧ Below w.heap.size w w' := by
  go_enter Tryz.func126, Tryz.ntmps126
  cases h : inside g.w 1 4
  all_goals
    go_wp2_with (go_at_call 132; refine (spec_l01In _ _ _ _).mono ?_; rintro e w' ⟨rfl, rfl⟩)
    go_ret
    exact ⟨by simp [gridOk, h], bel⟩
theorem spec_NodeCount (g : Grid) (w : World) : Calls Tryz.prog 96 #[.agg #[.int .i64 g.w, .int .i64 g.h]] w fun e w' => e = .returned (.int .i64 (nodeCount g)) ∧ Below w.heap.size w w' := by
  go_enter Tryz.func96, Tryz.ntmps96
  cases h : gridOk g
  · go_wp2_with (go_at_call 126; refine (spec_GridOk g _).mono ?_; rintro e w1 ⟨rfl, hb1⟩; obtain ⟨hc1, hf1, hz1⟩ := bcell hb1; (try simp only [szs] at hz1); have hb2 := far2; obtain ⟨hc2, hf2, hz2⟩ := bcell hb2; (try simp only [szs] at hz2); try (first | obtain ⟨hy1, hy2, hy3, hy4⟩ := lts4 hz2 | obtain ⟨hy1, hy2, hy3⟩ := lts3 hz2 | obtain ⟨hy1, hy2⟩ := lts2 hz2 | have hy1 := lts1 hz2); have hb9 := hb1)
    go_ret
    exact ⟨by simp [nodeCount, h], bel⟩
  · obtain ⟨a1, a2, a3, a4, a5, a6⟩ := grid_bounds h
    go_wp2_with (go_at_call 126; refine (spec_GridOk g _).mono ?_; rintro e w1 ⟨rfl, hb1⟩; obtain ⟨hc1, hf1, hz1⟩ := bcell hb1; (try simp only [szs] at hz1); have hb2 := far2; obtain ⟨hc2, hf2, hz2⟩ := bcell hb2; (try simp only [szs] at hz2); try (first | obtain ⟨hy1, hy2, hy3, hy4⟩ := lts4 hz2 | obtain ⟨hy1, hy2, hy3⟩ := lts3 hz2 | obtain ⟨hy1, hy2⟩ := lts2 hz2 | have hy1 := lts1 hz2); have hb9 := hb1)
    go_ret
    exact ⟨by simp [nodeCount, h], bel⟩
theorem spec_NodeAt (g : Grid) (x y : Int) (w : World) : Calls Tryz.prog 147 #[.agg #[.int .i64 g.w, .int .i64 g.h], .int .i64 x, .int .i64 y] w fun e w' => e = .returned (.int .i64 (nodeAt g x y)) ∧ Below w.heap.size w w' := by
  go_enter Tryz.func147, Tryz.ntmps147
  cases h : gridOk g
  · go_wp2_with (first | (go_at_call 126; refine (spec_GridOk g _).mono ?_; rintro e w1 ⟨rfl, hb1⟩; obtain ⟨hc1, hf1, hz1⟩ := bcell hb1; (try simp only [szs] at hz1); have hb2 := far2; obtain ⟨hc2, hf2, hz2⟩ := bcell hb2; (try simp only [szs] at hz2); try (first | obtain ⟨hy1, hy2, hy3, hy4⟩ := lts4 hz2 | obtain ⟨hy1, hy2, hy3⟩ := lts3 hz2 | obtain ⟨hy1, hy2⟩ := lts2 hz2 | have hy1 := lts1 hz2); have hb9 := hb1) | (go_at_call 132; refine (spec_l01In _ _ _ _).mono ?_; rintro e w' ⟨rfl, rfl⟩))
    go_ret
    exact ⟨by simp [nodeAt, h], bel⟩
  · obtain ⟨a1, a2, a3, a4, a5, a6⟩ := grid_bounds h
    cases hx : inside x 0 (g.w - 1)
    · go_wp2_with (first | (go_at_call 126; refine (spec_GridOk g _).mono ?_; rintro e w1 ⟨rfl, hb1⟩; obtain ⟨hc1, hf1, hz1⟩ := bcell hb1; (try simp only [szs] at hz1); have hb2 := far2; obtain ⟨hc2, hf2, hz2⟩ := bcell hb2; (try simp only [szs] at hz2); try (first | obtain ⟨hy1, hy2, hy3, hy4⟩ := lts4 hz2 | obtain ⟨hy1, hy2, hy3⟩ := lts3 hz2 | obtain ⟨hy1, hy2⟩ := lts2 hz2 | have hy1 := lts1 hz2); have hb9 := hb1) | (go_at_call 132; refine (spec_l01In _ _ _ _).mono ?_; rintro e w' ⟨rfl, rfl⟩))
      go_ret
      exact ⟨by simp [nodeAt, h, hx], bel⟩
    · cases hy : inside y 0 (g.h - 1)
      · go_wp2_with (first | (go_at_call 126; refine (spec_GridOk g _).mono ?_; rintro e w1 ⟨rfl, hb1⟩; obtain ⟨hc1, hf1, hz1⟩ := bcell hb1; (try simp only [szs] at hz1); have hb2 := far2; obtain ⟨hc2, hf2, hz2⟩ := bcell hb2; (try simp only [szs] at hz2); try (first | obtain ⟨hy1, hy2, hy3, hy4⟩ := lts4 hz2 | obtain ⟨hy1, hy2, hy3⟩ := lts3 hz2 | obtain ⟨hy1, hy2⟩ := lts2 hz2 | have hy1 := lts1 hz2); have hb9 := hb1) | (go_at_call 132; refine (spec_l01In _ _ _ _).mono ?_; rintro e w' ⟨rfl, rfl⟩))
        go_ret
        exact ⟨by simp [nodeAt, h, hx, hy], bel⟩
      · obtain ⟨b1, b2⟩ := inside_bounds hy
        obtain ⟨b3, b4⟩ := inside_bounds hx
        have b5 : 0 ≤ y * g.w := Int.mul_nonneg b1 (by omega)
        have b6 : y * g.w ≤ 12 := by have := Int.mul_le_mul (show y ≤ 3 by omega) a2 (by omega) (by omega); omega
        go_wp2_with (first | (go_at_call 126; refine (spec_GridOk g _).mono ?_; rintro e w1 ⟨rfl, hb1⟩; obtain ⟨hc1, hf1, hz1⟩ := bcell hb1; (try simp only [szs] at hz1); have hb2 := far2; obtain ⟨hc2, hf2, hz2⟩ := bcell hb2; (try simp only [szs] at hz2); try (first | obtain ⟨hy1, hy2, hy3, hy4⟩ := lts4 hz2 | obtain ⟨hy1, hy2, hy3⟩ := lts3 hz2 | obtain ⟨hy1, hy2⟩ := lts2 hz2 | have hy1 := lts1 hz2); have hb9 := hb1) | (go_at_call 132; refine (spec_l01In _ _ _ _).mono ?_; rintro e w' ⟨rfl, rfl⟩))
        go_ret
        exact ⟨by simp [nodeAt, h, hx, hy], bel⟩
theorem spec_l02Has (g : Grid) (a : Int) (w : World) : Calls Tryz.prog 145 #[.agg #[.int .i64 g.w, .int .i64 g.h], .int .i64 a] w fun e w' => e = .returned (.bool (isNode g a)) ∧ Below w.heap.size w w' := by
  obtain ⟨a1, a2⟩ := count_bounds g
  go_enter Tryz.func145, Tryz.ntmps145
  go_wp2_with (first | (go_at_call 96; refine (spec_NodeCount g _).mono ?_; rintro e w1 ⟨rfl, hb1⟩; obtain ⟨hc1, hf1, hz1⟩ := bcell hb1; (try simp only [szs] at hz1); have hb2 := far2; obtain ⟨hc2, hf2, hz2⟩ := bcell hb2; (try simp only [szs] at hz2); try (first | obtain ⟨hy1, hy2, hy3, hy4⟩ := lts4 hz2 | obtain ⟨hy1, hy2, hy3⟩ := lts3 hz2 | obtain ⟨hy1, hy2⟩ := lts2 hz2 | have hy1 := lts1 hz2); have hb9 := hb1) | (go_at_call 132; refine (spec_l01In _ _ _ _).mono ?_; rintro e w' ⟨rfl, rfl⟩))
  go_ret
  exact ⟨rfl, bel⟩
theorem spec_NextNode (g : Grid) (a p : Int) (w : World) : Calls Tryz.prog 137 #[.agg #[.int .i64 g.w, .int .i64 g.h], .int .i64 a, .int .i64 p] w fun e w' => e = .returned (.int .i64 (nextNode g a p)) ∧ Below w.heap.size w w' := by
  go_enter Tryz.func137, Tryz.ntmps137
  cases h : isNode g a
  · go_wp2_with (go_at_call 145; refine (spec_l02Has g _ _).mono ?_; rintro e w1 ⟨rfl, hb1⟩; obtain ⟨hc1, hf1, hz1⟩ := bcell hb1; (try simp only [szs] at hz1); have hb2 := far2; obtain ⟨hc2, hf2, hz2⟩ := bcell hb2; (try simp only [szs] at hz2); try (first | obtain ⟨hy1, hy2, hy3, hy4⟩ := lts4 hz2 | obtain ⟨hy1, hy2, hy3⟩ := lts3 hz2 | obtain ⟨hy1, hy2⟩ := lts2 hz2 | have hy1 := lts1 hz2); have hb9 := hb1)
    go_ret
    exact ⟨by simp [nextNode, h], bel⟩
  · obtain ⟨c1, c2, c3, c4⟩ := node_bounds h
    obtain ⟨a1, a2, a3, a4, a5, a6⟩ := grid_bounds c1
    obtain ⟨d1, d2, d3, d4⟩ := div_bounds h
    clear c1
    have hp : p = 0 ∨ p = 1 ∨ p = 2 ∨ p = 3 ∨ p = 4 ∨ ((p == 0) = false ∧ (p == 1) = false ∧ (p == 2) = false ∧ (p == 3) = false ∧ (p == 4) = false) := by
      simp only [beq_eq_false_iff_ne]
      omega
    rcases hp with rfl | rfl | rfl | rfl | rfl | ⟨f0, f1, f2, f3, f4⟩
    all_goals
      go_wp2_with (first | (go_at_call 145; refine (spec_l02Has g _ _).mono ?_; rintro e w1 ⟨rfl, hb1⟩; obtain ⟨hc1, hf1, hz1⟩ := bcell hb1; (try simp only [szs] at hz1); have hb2 := far2; obtain ⟨hc2, hf2, hz2⟩ := bcell hb2; (try simp only [szs] at hz2); try (first | obtain ⟨hy1, hy2, hy3, hy4⟩ := lts4 hz2 | obtain ⟨hy1, hy2, hy3⟩ := lts3 hz2 | obtain ⟨hy1, hy2⟩ := lts2 hz2 | have hy1 := lts1 hz2); have hb9 := hb1) | (go_at_call 147; refine (spec_NodeAt g _ _ _).mono ?_; rintro e w1 ⟨rfl, hb1⟩; obtain ⟨hc1, hf1, hz1⟩ := bcell hb1; (try simp only [szs] at hz1); have hb2 := far2; obtain ⟨hc2, hf2, hz2⟩ := bcell hb2; (try simp only [szs] at hz2); try (first | obtain ⟨hy1, hy2, hy3, hy4⟩ := lts4 hz2 | obtain ⟨hy1, hy2, hy3⟩ := lts3 hz2 | obtain ⟨hy1, hy2⟩ := lts2 hz2 | have hy1 := lts1 hz2); have hb9 := hb1))
      try (go_quiet (fail); go_wp2_with (first | (go_at_call 145; refine (spec_l02Has g _ _).mono ?_; rintro e w1 ⟨rfl, hb1⟩; obtain ⟨hc1, hf1, hz1⟩ := bcell hb1; (try simp only [szs] at hz1); have hb2 := far2; obtain ⟨hc2, hf2, hz2⟩ := bcell hb2; (try simp only [szs] at hz2); try (first | obtain ⟨hy1, hy2, hy3, hy4⟩ := lts4 hz2 | obtain ⟨hy1, hy2, hy3⟩ := lts3 hz2 | obtain ⟨hy1, hy2⟩ := lts2 hz2 | have hy1 := lts1 hz2); have hb9 := hb1) | (go_at_call 147; refine (spec_NodeAt g _ _ _).mono ?_; rintro e w1 ⟨rfl, hb1⟩; obtain ⟨hc1, hf1, hz1⟩ := bcell hb1; (try simp only [szs] at hz1); have hb2 := far2; obtain ⟨hc2, hf2, hz2⟩ := bcell hb2; (try simp only [szs] at hz2); try (first | obtain ⟨hy1, hy2, hy3, hy4⟩ := lts4 hz2 | obtain ⟨hy1, hy2, hy3⟩ := lts3 hz2 | obtain ⟨hy1, hy2⟩ := lts2 hz2 | have hy1 := lts1 hz2); have hb9 := hb1)))
      go_ret
      exact ⟨by first | (simp [nextNode, h]; done) | (simp only [beq_eq_false_iff_ne] at f0 f1 f2 f3 f4; simp [nextNode, h, f0, f1, f2, f3, f4]), bel⟩
theorem spec_Opposite (p : Int) (w : World) : Calls Tryz.prog 138 #[.int .i64 p] w fun e w' => e = .returned (.int .i64 (opposite p)) ∧ Below w.heap.size w w' := by
  go_enter Tryz.func138, Tryz.ntmps138
  by_cases e4 : p = 4
  · subst e4
    go_wp2_with (go_at_call 132; refine (spec_l01In _ _ _ _).mono ?_; rintro e w' ⟨rfl, rfl⟩)
    go_ret
    exact ⟨by simp [opposite], bel⟩
  · have f4 : (p == 4) = false := by simpa using e4
    cases h : inside p 0 3
    · go_wp2_with (go_at_call 132; refine (spec_l01In _ _ _ _).mono ?_; rintro e w' ⟨rfl, rfl⟩)
      go_ret
      exact ⟨by simp [opposite, e4, h], bel⟩
    · obtain ⟨b1, b2⟩ := inside_bounds h
      go_wp2_with (go_at_call 132; refine (spec_l01In _ _ _ _).mono ?_; rintro e w' ⟨rfl, rfl⟩)
      go_ret
      exact ⟨by simp [opposite, e4, h], bel⟩
end Go.Proofs.YtaihmgbflhbebaaGreat
namespace Go.Proofs.YtaihmgbflhbebaaGreat
open Go.RowKit Go.Proofs.YtaihmgbflhbebaaGreatW.PrintWords
open NoC
theorem impl_leads (g : Grid) (c : Int) (w : World) : Calls Tryz.prog 123 #[.agg #[.int .i64 g.w, .int .i64 g.h], .int .i64 c] w fun e w' => e = .returned (.bool (leads g c)) ∧ Below w.heap.size w w' := by
  obtain ⟨a1, a2⟩ := count_bounds g
  go_enter Tryz.func123, Tryz.ntmps123
  cases h : inside c 0 (4 * nodeCount g - 1)
  · go_wp2_with (first | (go_at_call 48; refine (impl_NodeCount g _).mono ?_; rintro e w1 ⟨rfl, hb1⟩; obtain ⟨hc1, hf1, hz1⟩ := bcell hb1; (try simp only [szs] at hz1); have hb2 := far2; obtain ⟨hc2, hf2, hz2⟩ := bcell hb2; (try simp only [szs] at hz2); try (first | obtain ⟨hy1, hy2, hy3, hy4⟩ := lts4 hz2 | obtain ⟨hy1, hy2, hy3⟩ := lts3 hz2 | obtain ⟨hy1, hy2⟩ := lts2 hz2 | have hy1 := lts1 hz2); have hb9 := hb1) | (go_at_call 52; refine (impl_inside _ _ _ _).mono ?_; rintro e w' ⟨rfl, rfl⟩))
    go_ret
    exact ⟨by simp [leads, h], bel⟩
  · obtain ⟨b1, b2⟩ := inside_bounds h
    go_wp2_with (first | (go_at_call 48; refine (impl_NodeCount g _).mono ?_; rintro e w1 ⟨rfl, hb1⟩; obtain ⟨hc1, hf1, hz1⟩ := bcell hb1; (try simp only [szs] at hz1); have hb2 := far2; obtain ⟨hc2, hf2, hz2⟩ := bcell hb2; (try simp only [szs] at hz2); try (first | obtain ⟨hy1, hy2, hy3, hy4⟩ := lts4 hz2 | obtain ⟨hy1, hy2, hy3⟩ := lts3 hz2 | obtain ⟨hy1, hy2⟩ := lts2 hz2 | have hy1 := lts1 hz2); have hb9 := hb1) | (go_at_call 52; refine (impl_inside _ _ _ _).mono ?_; rintro e w' ⟨rfl, rfl⟩) | (go_at_call 58; refine (impl_NextNode g _ _ _).mono ?_; rintro e w1 ⟨rfl, hb1⟩; obtain ⟨hc1, hf1, hz1⟩ := bcell hb1; (try simp only [szs] at hz1); have hb2 := far2; obtain ⟨hc2, hf2, hz2⟩ := bcell hb2; (try simp only [szs] at hz2); try (first | obtain ⟨hy1, hy2, hy3, hy4⟩ := lts4 hz2 | obtain ⟨hy1, hy2, hy3⟩ := lts3 hz2 | obtain ⟨hy1, hy2⟩ := lts2 hz2 | have hy1 := lts1 hz2); have hb9 := hb1))
    go_ret
    exact ⟨by simp [leads, h], bel⟩
theorem spec_l03Leads (g : Grid) (c : Int) (w : World) : Calls Tryz.prog 152 #[.agg #[.int .i64 g.w, .int .i64 g.h], .int .i64 c] w fun e w' => e = .returned (.bool (leads g c)) ∧ Below w.heap.size w w' := by
  obtain ⟨a1, a2⟩ := count_bounds g
  go_enter Tryz.func152, Tryz.ntmps152
  cases h : inside c 0 (4 * nodeCount g - 1)
  · go_wp2_with (first | (go_at_call 96; refine (spec_NodeCount g _).mono ?_; rintro e w1 ⟨rfl, hb1⟩; obtain ⟨hc1, hf1, hz1⟩ := bcell hb1; (try simp only [szs] at hz1); have hb2 := far2; obtain ⟨hc2, hf2, hz2⟩ := bcell hb2; (try simp only [szs] at hz2); try (first | obtain ⟨hy1, hy2, hy3, hy4⟩ := lts4 hz2 | obtain ⟨hy1, hy2, hy3⟩ := lts3 hz2 | obtain ⟨hy1, hy2⟩ := lts2 hz2 | have hy1 := lts1 hz2); have hb9 := hb1) | (go_at_call 132; refine (spec_l01In _ _ _ _).mono ?_; rintro e w' ⟨rfl, rfl⟩))
    go_ret
    exact ⟨by simp [leads, h], bel⟩
  · obtain ⟨b1, b2⟩ := inside_bounds h
    go_wp2_with (first | (go_at_call 96; refine (spec_NodeCount g _).mono ?_; rintro e w1 ⟨rfl, hb1⟩; obtain ⟨hc1, hf1, hz1⟩ := bcell hb1; (try simp only [szs] at hz1); have hb2 := far2; obtain ⟨hc2, hf2, hz2⟩ := bcell hb2; (try simp only [szs] at hz2); try (first | obtain ⟨hy1, hy2, hy3, hy4⟩ := lts4 hz2 | obtain ⟨hy1, hy2, hy3⟩ := lts3 hz2 | obtain ⟨hy1, hy2⟩ := lts2 hz2 | have hy1 := lts1 hz2); have hb9 := hb1) | (go_at_call 132; refine (spec_l01In _ _ _ _).mono ?_; rintro e w' ⟨rfl, rfl⟩) | (go_at_call 137; refine (spec_NextNode g _ _ _).mono ?_; rintro e w1 ⟨rfl, hb1⟩; obtain ⟨hc1, hf1, hz1⟩ := bcell hb1; (try simp only [szs] at hz1); have hb2 := far2; obtain ⟨hc2, hf2, hz2⟩ := bcell hb2; (try simp only [szs] at hz2); try (first | obtain ⟨hy1, hy2, hy3, hy4⟩ := lts4 hz2 | obtain ⟨hy1, hy2, hy3⟩ := lts3 hz2 | obtain ⟨hy1, hy2⟩ := lts2 hz2 | have hy1 := lts1 hz2); have hb9 := hb1))
    go_ret
    exact ⟨by simp [leads, h], bel⟩

theorem impl_MeshOk (m : Mesh) (A : Option Addr) (c : Nat) (w : World) (hr : Kd.C (Kd.int .i64) w A m.br.length m.br) (hn : m.br.length ≤ 2097152) :
    Calls Tryz.prog 115 #[.agg #[.int .i64 m.g.w, .int .i64 m.g.h, .slice A m.br.length c]] w fun e w' => e = .returned (.bool (meshOk m)) ∧ Below w.heap.size w w' := by
  go_enter Tryz.func115, Tryz.ntmps115
  go_wp2
  go_loopw [8] (fun i wr => ∃ k : Nat, k ≤ m.br.length ∧ i = .int .i64 k ∧ Hid (∀ j : Nat, j < k → brokenAt m j = true) ∧ Below (w.alloc (.cells #[.int .i64 m.g.w, .int .i64 m.g.h, .slice A m.br.length c] 28)).heap.size (w.alloc (.cells #[.int .i64 m.g.w, .int .i64 m.g.h, .slice A m.br.length c] 28)) wr) (fun i _ => m.br.length - (intOf i).toNat)
  case atStart => exact ⟨0, Nat.zero_le _, rfl, Lib.hid fun j h => absurd h (Nat.not_lt_zero _), Below.refl _ _⟩
  case round =>
    obtain ⟨k, hk, rfl, HA, HB⟩ := hrel
    obtain ⟨hc0, hf0, hz0⟩ := bcell HB
    simp only [szs] at hz0
    by_cases hlt : k < m.br.length
    · obtain ⟨b, off, rfl, hb, hx⟩ := rdI_at hr k hlt
      have hxk := hx k hlt
      have hx1 := hx (k - 1) (by omega)
      go_wp2_with (go_at_call 123; refine (impl_leads m.g _ _).mono ?_; rintro e w1 ⟨rfl, hb1⟩; obtain ⟨hc1, hf1, hz1⟩ := bcell hb1; (try simp only [szs] at hz1); have hb2 := far2; obtain ⟨hc2, hf2, hz2⟩ := bcell hb2; (try simp only [szs] at hz2); try (first | obtain ⟨hy1, hy2, hy3, hy4⟩ := lts4 hz2 | obtain ⟨hy1, hy2, hy3⟩ := lts3 hz2 | obtain ⟨hy1, hy2⟩ := lts2 hz2 | have hy1 := lts1 hz2); have hb9 := hb1)
      · go_ret
        exact ⟨ret_bool (meshOk_no k hlt (brokenAt_no2 (by assumption) (by assumption))).symm, bel⟩
      · go_roundw
        case rel => exact ⟨k + 1, by omega, by go_num, Lib.hid (upto HA.out (brokenAt_yes1 (by assumption) (by assumption))), bel⟩
        case measure => simp [intOf]; omega
      · go_roundw
        case rel => exact ⟨k + 1, by omega, by go_num, Lib.hid (upto HA.out (brokenAt_yes0 (by assumption) (by assumption))), bel⟩
        case measure => simp [intOf]; omega
      · go_ret
        exact ⟨ret_bool (meshOk_no k hlt (brokenAt_no1 (by assumption))).symm, bel⟩
    · go_wp2_with (go_at_call 79; refine (impl_GridOk m.g _).mono ?_; rintro e w1 ⟨rfl, hb1⟩; obtain ⟨hc1, hf1, hz1⟩ := bcell hb1; (try simp only [szs] at hz1); have hb2 := far2; obtain ⟨hc2, hf2, hz2⟩ := bcell hb2; (try simp only [szs] at hz2); try (first | obtain ⟨hy1, hy2, hy3, hy4⟩ := lts4 hz2 | obtain ⟨hy1, hy2, hy3⟩ := lts3 hz2 | obtain ⟨hy1, hy2⟩ := lts2 hz2 | have hy1 := lts1 hz2); have hb9 := hb1)
      go_ret
      exact ⟨ret_bool (meshOk_yes (fun j hj => HA.out j (by omega))).symm, bel⟩
theorem spec_MeshOk (m : Mesh) (A : Option Addr) (c : Nat) (w : World) (hr : Kd.C (Kd.int .i64) w A m.br.length m.br) (hn : m.br.length ≤ 2097152) :
  Calls Tryz.prog 148 #[.agg #[.int .i64 m.g.w, .int .i64 m.g.h, .slice A m.br.length c]] w fun e w' => e = .returned (.bool (meshOk m)) ∧ Below w.heap.size w w' := by
 go_enter Tryz.func148, Tryz.ntmps148
 cases hg : gridOk m.g
 ·go_wp2_with (go_at_call 126; refine (spec_GridOk m.g _).mono ?_; rintro e w1 ⟨rfl, hb1⟩; obtain ⟨hc1, hf1, hz1⟩ := bcell hb1; (try simp only [szs] at hz1); have hb2 := far2; obtain ⟨hc2, hf2, hz2⟩ := bcell hb2; (try simp only [szs] at hz2); try (first | obtain ⟨hy1, hy2, hy3, hy4⟩ := lts4 hz2 | obtain ⟨hy1, hy2, hy3⟩ := lts3 hz2 | obtain ⟨hy1, hy2⟩ := lts2 hz2 | have hy1 := lts1 hz2); have hb9 := hb1)
  go_ret
  exact ⟨ret_bool (by simp [meshOk, hg]), bel⟩
 go_wp2_with (go_at_call 126; refine (spec_GridOk m.g _).mono ?_; rintro e w1 ⟨rfl, hb1⟩; obtain ⟨hc1, hf1, hz1⟩ := bcell hb1; (try simp only [szs] at hz1); have hb2 := far2; obtain ⟨hc2, hf2, hz2⟩ := bcell hb2; (try simp only [szs] at hz2); try (first | obtain ⟨hy1, hy2, hy3, hy4⟩ := lts4 hz2 | obtain ⟨hy1, hy2, hy3⟩ := lts3 hz2 | obtain ⟨hy1, hy2⟩ := lts2 hz2 | have hy1 := lts1 hz2); have hb9 := hb1)
 go_loopw [3] (fun i wr => ∃ k : Nat, k ≤ m.br.length ∧ i = .int .i64 k ∧ Hid (∀ j : Nat, j < k → brokenAt m j = true) ∧ Below (w.alloc (.cells #[.int .i64 m.g.w, .int .i64 m.g.h, .slice A m.br.length c] 28)).heap.size (w.alloc (.cells #[.int .i64 m.g.w, .int .i64 m.g.h, .slice A m.br.length c] 28)) wr) (fun i _ => m.br.length - (intOf i).toNat)
 case atStart => exact ⟨0, Nat.zero_le _, rfl, Lib.hid fun j h => absurd h (Nat.not_lt_zero _), bel⟩
 case round =>
  obtain ⟨k, hk, rfl, HA, HB⟩ := hrel
  obtain ⟨hc0, hf0, hz0⟩ := bcell HB
  simp only [szs] at hz0
  by_cases hlt : k < m.br.length
  ·obtain ⟨b, off, rfl, hb, hx⟩ := rdI_at hr k hlt
   have hxk := hx k hlt
   have hx1 := hx (k - 1) (by omega)
   have i0 : (0 : Int) ≤ (k : Int) := by omega
   have i1 : (k : Int) < (m.br.length : Int) := by omega
   cases hl : leads m.g (ri m.br k)
   ·go_wp2_with fail
    refine wp_region_far (w.alloc (.cells #[.int .i64 m.g.w, .int .i64 m.g.h, .slice (some ⟨b, off, none⟩) m.br.length c] 28)) (by kernel_rfl) (by kernel_rfl) bel ?_
    have hqc := far_cell (w.alloc (.cells #[.int .i64 m.g.w, .int .i64 m.g.h, .slice (some ⟨b, off, none⟩) m.br.length c] 28))
    have hqf := far_frozen (w.alloc (.cells #[.int .i64 m.g.w, .int .i64 m.g.h, .slice (some ⟨b, off, none⟩) m.br.length c] 28))
    repeat (first | go_big_quiet_step ((go_at_call 152; exact far_call (Calls.says (spec_l03Leads m.g _ _) (congrArg Value.bool hl)))) | quiet_step ((go_at_call 152; exact far_call (Calls.says (spec_l03Leads m.g _ _) (congrArg Value.bool hl)))))
    refine wpQuiet_nil ?_
    intro wq hbq
    clear hqc hqf
    obtain ⟨hcq, hfq, hzq⟩ := bcell hbq
    try simp only [szs] at hzq
    go_wp2
    go_ret
    exact ⟨ret_bool (meshOk_no k hlt (brokenAt_no1 (by simp [hl]))).symm, bel⟩
   ·by_cases h0 : 0 < k
    ·have hd : decide ((0 : Int) < (k : Int)) = true := decide_eq_true (by omega)
     go_wp2_with fail
     refine wp_region_far (w.alloc (.cells #[.int .i64 m.g.w, .int .i64 m.g.h, .slice (some ⟨b, off, none⟩) m.br.length c] 28)) (by kernel_rfl) (by kernel_rfl) bel ?_
     have hqc := far_cell (w.alloc (.cells #[.int .i64 m.g.w, .int .i64 m.g.h, .slice (some ⟨b, off, none⟩) m.br.length c] 28))
     have hqf := far_frozen (w.alloc (.cells #[.int .i64 m.g.w, .int .i64 m.g.h, .slice (some ⟨b, off, none⟩) m.br.length c] 28))
     repeat (first | go_big_quiet_step ((go_at_call 152; exact far_call (Calls.says (spec_l03Leads m.g _ _) (congrArg Value.bool hl)))) | quiet_step ((go_at_call 152; exact far_call (Calls.says (spec_l03Leads m.g _ _) (congrArg Value.bool hl)))))
     refine wpQuiet_nil ?_
     intro wq hbq
     clear hqc hqf
     obtain ⟨hcq, hfq, hzq⟩ := bcell hbq
     try simp only [szs] at hzq
     go_wp2
     ·go_ret
      exact ⟨ret_bool (meshOk_no k hlt (brokenAt_no2 (by assumption) (by assumption))).symm, bel⟩
     ·go_roundw
      case rel => exact ⟨k + 1, by omega, by go_num, Lib.hid (upto HA.out (brokenAt_yes1 (by assumption) (by omega))), bel⟩
      case measure => simp [intOf]; omega
    ·have hd : decide ((0 : Int) < (k : Int)) = false := decide_eq_false (by omega)
     go_wp2_with fail
     refine wp_region_far (w.alloc (.cells #[.int .i64 m.g.w, .int .i64 m.g.h, .slice (some ⟨b, off, none⟩) m.br.length c] 28)) (by kernel_rfl) (by kernel_rfl) bel ?_
     have hqc := far_cell (w.alloc (.cells #[.int .i64 m.g.w, .int .i64 m.g.h, .slice (some ⟨b, off, none⟩) m.br.length c] 28))
     have hqf := far_frozen (w.alloc (.cells #[.int .i64 m.g.w, .int .i64 m.g.h, .slice (some ⟨b, off, none⟩) m.br.length c] 28))
     repeat (first | go_big_quiet_step ((go_at_call 152; exact far_call (Calls.says (spec_l03Leads m.g _ _) (congrArg Value.bool hl)))) | quiet_step ((go_at_call 152; exact far_call (Calls.says (spec_l03Leads m.g _ _) (congrArg Value.bool hl)))))
     refine wpQuiet_nil ?_
     intro wq hbq
     clear hqc hqf
     obtain ⟨hcq, hfq, hzq⟩ := bcell hbq
     try simp only [szs] at hzq
     go_wp2
     go_roundw
     case rel => exact ⟨k + 1, by omega, by go_num, Lib.hid (upto HA.out (brokenAt_yes0 (by assumption) (by assumption))), bel⟩
     case measure => simp [intOf]; omega
  ·go_wp2
   go_ret
   exact ⟨ret_bool (by rw [meshOk_yes (fun j hj => HA.out j (by omega)), hg]), bel⟩

theorem slices_Index_int (l : List Int) (x : Int) (A : Option Addr) (c : Nat) (w : World) (hr : Kd.C (Kd.int .i64) w A l.length l) (hn : l.length ≤ 2097152) :
    Calls Tryz.prog 142 #[.slice A l.length c, .int .i64 x] w fun e w' => e = .returned (.int .i64 (idx l x)) ∧ w = w' := by
  go_enter Tryz.func142, Tryz.ntmps142
  go_wp2
  go_loop [8] (fun i => ∃ k : Nat, k ≤ l.length ∧ i = .int .i64 k ∧ Hid (∀ j : Nat, j < k → ¬ ri l j = x)) (fun i => l.length - (intOf i).toNat)
  case atStart => exact ⟨0, Nat.zero_le _, rfl, Lib.hid fun j h => absurd h (Nat.not_lt_zero _)⟩
  case round =>
    obtain ⟨k, hk, rfl, HA⟩ := hrel
    by_cases hlt : k < l.length
    · obtain ⟨b, off, rfl, hb, hx⟩ := rdI_at hr k hlt
      have hxk := hx k hlt
      by_cases e : ri l k = x
      · have e1 : (x == ri l k) = true := beq_iff_eq.2 e.symm
        have HE := Lib.hid e
        clear e
        go_wp2
        go_ret
        exact ⟨ret_int (idx_yes k hlt HE.out HA.out).symm, rfl⟩
      · have e1 : (x == ri l k) = false := beq_eq_false_iff_ne.2 (Ne.symm e)
        have HE := Lib.hid e
        clear e
        go_wp2
        go_round
        case rel => exact ⟨k + 1, by omega, by go_num, Lib.hid (upto HA.out HE.out)⟩
        case measure => simp [intOf]; omega
    · go_wp2
      go_ret
      exact ⟨ret_int (idx_no (fun j hj => HA.out j (by omega))).symm, rfl⟩
theorem slices_Contains_int (l : List Int) (x : Int) (A : Option Addr) (c : Nat) (w : World) (hr : Kd.C (Kd.int .i64) w A l.length l) (hn : l.length ≤ 2097152) :
    Calls Tryz.prog 124 #[.slice A l.length c, .int .i64 x] w fun e w' => e = .returned (.bool (has l x)) ∧ w = w' := by
  go_enter Tryz.func124, Tryz.ntmps124
  go_wp2_with (go_at_call 142; refine (slices_Index_int _ _ _ _ _ hr hn).mono ?_; rintro e w' ⟨rfl, rfl⟩)
  go_ret
  exact ⟨ret_bool (by simpa using idx_contains l x), rfl⟩
theorem spec_l03Find (l : List Int) (x : Int) (A : Option Addr) (c : Nat) (w : World) (hr : Kd.C (Kd.int .i64) w A l.length l) (hn : l.length ≤ 2097152) :
    Calls Tryz.prog 153 #[.slice A l.length c, .int .i64 x] w fun e w' => e = .returned (.bool (has l x)) ∧ w = w' := by
  go_enter Tryz.func153, Tryz.ntmps153
  go_wp2
  go_loop [5] (fun i => ∃ k : Nat, k ≤ l.length ∧ i = .int .i64 k ∧ Hid (∀ j : Nat, j < k → ¬ ri l j = x)) (fun i => l.length - (intOf i).toNat)
  case atStart => exact ⟨0, Nat.zero_le _, rfl, Lib.hid fun j h => absurd h (Nat.not_lt_zero _)⟩
  case round =>
    obtain ⟨k, hk, rfl, HA⟩ := hrel
    by_cases hlt : k < l.length
    · obtain ⟨b, off, rfl, hb, hx⟩ := rdI_at hr k hlt
      have hxk := hx k hlt
      by_cases e : ri l k = x
      · have e1 : (ri l k == x) = true := beq_iff_eq.2 e
        have HE := Lib.hid e
        clear e
        go_wp2
        go_ret
        exact ⟨ret_bool (contains_yes k hlt HE.out).symm, rfl⟩
      · have e1 : (ri l k == x) = false := beq_eq_false_iff_ne.2 e
        have HE := Lib.hid e
        clear e
        go_wp2
        go_round
        case rel => exact ⟨k + 1, by omega, by go_num, Lib.hid (upto HA.out HE.out)⟩
        case measure => simp [intOf]; omega
    · go_wp2
      go_ret
      exact ⟨ret_bool (contains_no (fun j hj => HA.out j (by omega))).symm, rfl⟩
theorem impl_live (m : Mesh) (x : Int) (A : Option Addr) (c : Nat) (w : World) (hr : Kd.C (Kd.int .i64) w A m.br.length m.br) (hn : m.br.length ≤ 2097152) :
    Calls Tryz.prog 89 #[.agg #[.int .i64 m.g.w, .int .i64 m.g.h, .slice A m.br.length c], .int .i64 x] w fun e w' => e = .returned (.bool (live m x)) ∧ Below w.heap.size w w' := by
  go_enter Tryz.func89, Tryz.ntmps89
  cases hl : leads m.g x
  · go_wp2_with (go_at_call 123; refine (impl_leads m.g _ _).mono ?_; rintro e w1 ⟨rfl, hb1⟩; obtain ⟨hc1, hf1, hz1⟩ := bcell hb1; (try simp only [szs] at hz1); have hb2 := far2; obtain ⟨hc2, hf2, hz2⟩ := bcell hb2; (try simp only [szs] at hz2); try (first | obtain ⟨hy1, hy2, hy3, hy4⟩ := lts4 hz2 | obtain ⟨hy1, hy2, hy3⟩ := lts3 hz2 | obtain ⟨hy1, hy2⟩ := lts2 hz2 | have hy1 := lts1 hz2); have hb9 := hb1)
    go_ret
    exact ⟨ret_bool (by simp [live, hl]), bel⟩
  · go_wp2_with (first | (go_at_call 123; refine (impl_leads m.g _ _).mono ?_; rintro e w1 ⟨rfl, hb1⟩; obtain ⟨hc1, hf1, hz1⟩ := bcell hb1; (try simp only [szs] at hz1); have hb2 := far2; obtain ⟨hc2, hf2, hz2⟩ := bcell hb2; (try simp only [szs] at hz2); try (first | obtain ⟨hy1, hy2, hy3, hy4⟩ := lts4 hz2 | obtain ⟨hy1, hy2, hy3⟩ := lts3 hz2 | obtain ⟨hy1, hy2⟩ := lts2 hz2 | have hy1 := lts1 hz2); have hb9 := hb1) | (go_at_call 124; refine (slices_Contains_int m.br x _ _ _ (by exact Kd.C_below hr bel) hn).mono ?_; rintro e w' ⟨rfl, rfl⟩))
    go_ret
    exact ⟨ret_bool (by simp [live, hl]), bel⟩
theorem impl_HasChannel (m : Mesh) (x : Int) (A : Option Addr) (c : Nat) (w : World) (hr : Kd.C (Kd.int .i64) w A m.br.length m.br) (hn : m.br.length ≤ 2097152) :
    Calls Tryz.prog 141 #[.agg #[.int .i64 m.g.w, .int .i64 m.g.h, .slice A m.br.length c], .int .i64 x] w fun e w' => e = .returned (.bool (hasChannel m x)) ∧ Below w.heap.size w w' := by
  go_enter Tryz.func141, Tryz.ntmps141
  cases hm : meshOk m
  · go_wp2_with (go_at_call 115; refine (impl_MeshOk m _ _ _ (by exact Kd.C_below hr bel) hn).mono ?_; rintro e w1 ⟨rfl, hb1⟩; obtain ⟨hc1, hf1, hz1⟩ := bcell hb1; (try simp only [szs] at hz1); have hb2 := far2; obtain ⟨hc2, hf2, hz2⟩ := bcell hb2; (try simp only [szs] at hz2); try (first | obtain ⟨hy1, hy2, hy3, hy4⟩ := lts4 hz2 | obtain ⟨hy1, hy2, hy3⟩ := lts3 hz2 | obtain ⟨hy1, hy2⟩ := lts2 hz2 | have hy1 := lts1 hz2); have hb9 := hb1)
    go_ret
    exact ⟨ret_bool (by simp [hasChannel, hm]), bel⟩
  cases hl : leads m.g x
  · go_wp2_with (first | (go_at_call 115; refine (impl_MeshOk m _ _ _ (by exact Kd.C_below hr bel) hn).mono ?_; rintro e w1 ⟨rfl, hb1⟩; obtain ⟨hc1, hf1, hz1⟩ := bcell hb1; (try simp only [szs] at hz1); have hb2 := far2; obtain ⟨hc2, hf2, hz2⟩ := bcell hb2; (try simp only [szs] at hz2); try (first | obtain ⟨hy1, hy2, hy3, hy4⟩ := lts4 hz2 | obtain ⟨hy1, hy2, hy3⟩ := lts3 hz2 | obtain ⟨hy1, hy2⟩ := lts2 hz2 | have hy1 := lts1 hz2); have hb9 := hb1) | (go_at_call 123; refine (impl_leads m.g _ _).mono ?_; rintro e w1 ⟨rfl, hb1⟩; obtain ⟨hc1, hf1, hz1⟩ := bcell hb1; (try simp only [szs] at hz1); have hb2 := far2; obtain ⟨hc2, hf2, hz2⟩ := bcell hb2; (try simp only [szs] at hz2); try (first | obtain ⟨hy1, hy2, hy3, hy4⟩ := lts4 hz2 | obtain ⟨hy1, hy2, hy3⟩ := lts3 hz2 | obtain ⟨hy1, hy2⟩ := lts2 hz2 | have hy1 := lts1 hz2); have hb9 := hb1))
    go_ret
    exact ⟨ret_bool (by simp [hasChannel, live, hm, hl]), bel⟩
  · go_wp2_with (first | (go_at_call 115; refine (impl_MeshOk m _ _ _ (by exact Kd.C_below hr bel) hn).mono ?_; rintro e w1 ⟨rfl, hb1⟩; obtain ⟨hc1, hf1, hz1⟩ := bcell hb1; (try simp only [szs] at hz1); have hb2 := far2; obtain ⟨hc2, hf2, hz2⟩ := bcell hb2; (try simp only [szs] at hz2); try (first | obtain ⟨hy1, hy2, hy3, hy4⟩ := lts4 hz2 | obtain ⟨hy1, hy2, hy3⟩ := lts3 hz2 | obtain ⟨hy1, hy2⟩ := lts2 hz2 | have hy1 := lts1 hz2); have hb9 := hb1) | (go_at_call 123; refine (impl_leads m.g _ _).mono ?_; rintro e w1 ⟨rfl, hb1⟩; obtain ⟨hc1, hf1, hz1⟩ := bcell hb1; (try simp only [szs] at hz1); have hb2 := far2; obtain ⟨hc2, hf2, hz2⟩ := bcell hb2; (try simp only [szs] at hz2); try (first | obtain ⟨hy1, hy2, hy3, hy4⟩ := lts4 hz2 | obtain ⟨hy1, hy2, hy3⟩ := lts3 hz2 | obtain ⟨hy1, hy2⟩ := lts2 hz2 | have hy1 := lts1 hz2); have hb9 := hb1) | (go_at_call 124; refine (slices_Contains_int m.br x _ _ _ (by exact Kd.C_below hr bel) hn).mono ?_; rintro e w' ⟨rfl, rfl⟩))
    go_ret
    exact ⟨ret_bool (by simp [hasChannel, live, hm, hl]), bel⟩
theorem spec_l03Has (m : Mesh) (x : Int) (A : Option Addr) (c : Nat) (w : World) (hr : Kd.C (Kd.int .i64) w A m.br.length m.br) (hn : m.br.length ≤ 2097152) :
    Calls Tryz.prog 149 #[.agg #[.int .i64 m.g.w, .int .i64 m.g.h, .slice A m.br.length c], .int .i64 x] w fun e w' => e = .returned (.bool (live m x)) ∧ Below w.heap.size w w' := by
  go_enter Tryz.func149, Tryz.ntmps149
  cases hl : leads m.g x
  · go_wp2_with (go_at_call 152; refine (spec_l03Leads m.g _ _).mono ?_; rintro e w1 ⟨rfl, hb1⟩; obtain ⟨hc1, hf1, hz1⟩ := bcell hb1; (try simp only [szs] at hz1); have hb2 := far2; obtain ⟨hc2, hf2, hz2⟩ := bcell hb2; (try simp only [szs] at hz2); try (first | obtain ⟨hy1, hy2, hy3, hy4⟩ := lts4 hz2 | obtain ⟨hy1, hy2, hy3⟩ := lts3 hz2 | obtain ⟨hy1, hy2⟩ := lts2 hz2 | have hy1 := lts1 hz2); have hb9 := hb1)
    go_ret
    exact ⟨ret_bool (by simp [live, hl]), bel⟩
  · go_wp2_with (first | (go_at_call 152; refine (spec_l03Leads m.g _ _).mono ?_; rintro e w1 ⟨rfl, hb1⟩; obtain ⟨hc1, hf1, hz1⟩ := bcell hb1; (try simp only [szs] at hz1); have hb2 := far2; obtain ⟨hc2, hf2, hz2⟩ := bcell hb2; (try simp only [szs] at hz2); try (first | obtain ⟨hy1, hy2, hy3, hy4⟩ := lts4 hz2 | obtain ⟨hy1, hy2, hy3⟩ := lts3 hz2 | obtain ⟨hy1, hy2⟩ := lts2 hz2 | have hy1 := lts1 hz2); have hb9 := hb1) | (go_at_call 153; refine (spec_l03Find m.br x _ _ _ (by exact Kd.C_below hr bel) hn).mono ?_; rintro e w' ⟨rfl, rfl⟩))
    go_ret
    exact ⟨ret_bool (by simp [live, hl]), bel⟩
theorem impl_endOf (m : Mesh) (a p : Int) (A : Option Addr) (c : Nat) (w : World) (ha : isNode m.g a = true) (h0 : 0 ≤ p) (h3 : p ≤ 3) :
    Calls Tryz.prog 109 #[.agg #[.int .i64 m.g.w, .int .i64 m.g.h, .slice A m.br.length c], .int .i64 (4 * a + p)] w fun e w' => e = .returned (.int .i64 (nextNode m.g a p)) ∧ Below w.heap.size w w' := by
  obtain ⟨b1, b2, b3, b4⟩ := node_bounds ha
  have hd := (chan_div (a := a) h0 h3).1
  have hm := (chan_div (a := a) h0 h3).2
  go_enter Tryz.func109, Tryz.ntmps109
  go_wp2_with (go_at_call 58; refine (impl_NextNode m.g _ _ _).mono ?_; rintro e w1 ⟨rfl, hb1⟩; obtain ⟨hc1, hf1, hz1⟩ := bcell hb1; (try simp only [szs] at hz1); have hb2 := far2; obtain ⟨hc2, hf2, hz2⟩ := bcell hb2; (try simp only [szs] at hz2); try (first | obtain ⟨hy1, hy2, hy3, hy4⟩ := lts4 hz2 | obtain ⟨hy1, hy2, hy3⟩ := lts3 hz2 | obtain ⟨hy1, hy2⟩ := lts2 hz2 | have hy1 := lts1 hz2); have hb9 := hb1)
  go_ret
  exact ⟨rfl, bel⟩

theorem impl_PortAt (m : Mesh) (t : List Int) (a b : Int) (A B : Option Addr) (c d : Nat) (w : World) (hr : Kd.C (Kd.int .i64) w A m.br.length m.br) (hn : m.br.length ≤ 2097152) (ht : Kd.C (Kd.int .i64) w B t.length t) (hk : t.length ≤ 2097152) :
    Calls Tryz.prog 121 #[.agg #[.int .i64 m.g.w, .int .i64 m.g.h, .slice A m.br.length c], .agg #[.slice B t.length d], .int .i64 a, .int .i64 b] w fun e w' => e = .returned (.int .i64 (portAt m t a b)) ∧ Below w.heap.size w w' := by
  obtain ⟨n0, n1⟩ := count_le m.g
  go_enter Tryz.func121, Tryz.ntmps121
  cases hm : meshOk m
  · go_wp2_with (first | (go_at_call 48; refine (impl_NodeCount m.g _).mono ?_; rintro e w1 ⟨rfl, hb1⟩; obtain ⟨hc1, hf1, hz1⟩ := bcell hb1; (try simp only [szs] at hz1); have hb2 := far2; obtain ⟨hc2, hf2, hz2⟩ := bcell hb2; (try simp only [szs] at hz2); try (first | obtain ⟨hy1, hy2, hy3, hy4⟩ := lts4 hz2 | obtain ⟨hy1, hy2, hy3⟩ := lts3 hz2 | obtain ⟨hy1, hy2⟩ := lts2 hz2 | have hy1 := lts1 hz2); have hb9 := hb1) | (go_at_call 115; refine (impl_MeshOk m _ _ _ (by exact Kd.C_below hr bel) hn).mono ?_; rintro e w1 ⟨rfl, hb1⟩; obtain ⟨hc1, hf1, hz1⟩ := bcell hb1; (try simp only [szs] at hz1); have hb2 := far2; obtain ⟨hc2, hf2, hz2⟩ := bcell hb2; (try simp only [szs] at hz2); try (first | obtain ⟨hy1, hy2, hy3, hy4⟩ := lts4 hz2 | obtain ⟨hy1, hy2, hy3⟩ := lts3 hz2 | obtain ⟨hy1, hy2⟩ := lts2 hz2 | have hy1 := lts1 hz2); have hb9 := hb1))
    go_ret
    exact ⟨ret_int (by simp [portAt, sized, hm]), bel⟩
  cases ha : inside a 0 (nodeCount m.g - 1)
  · go_wp2_with (first | (go_at_call 48; refine (impl_NodeCount m.g _).mono ?_; rintro e w1 ⟨rfl, hb1⟩; obtain ⟨hc1, hf1, hz1⟩ := bcell hb1; (try simp only [szs] at hz1); have hb2 := far2; obtain ⟨hc2, hf2, hz2⟩ := bcell hb2; (try simp only [szs] at hz2); try (first | obtain ⟨hy1, hy2, hy3, hy4⟩ := lts4 hz2 | obtain ⟨hy1, hy2, hy3⟩ := lts3 hz2 | obtain ⟨hy1, hy2⟩ := lts2 hz2 | have hy1 := lts1 hz2); have hb9 := hb1) | (go_at_call 115; refine (impl_MeshOk m _ _ _ (by exact Kd.C_below hr bel) hn).mono ?_; rintro e w1 ⟨rfl, hb1⟩; obtain ⟨hc1, hf1, hz1⟩ := bcell hb1; (try simp only [szs] at hz1); have hb2 := far2; obtain ⟨hc2, hf2, hz2⟩ := bcell hb2; (try simp only [szs] at hz2); try (first | obtain ⟨hy1, hy2, hy3, hy4⟩ := lts4 hz2 | obtain ⟨hy1, hy2, hy3⟩ := lts3 hz2 | obtain ⟨hy1, hy2⟩ := lts2 hz2 | have hy1 := lts1 hz2); have hb9 := hb1) | (go_at_call 52; refine (impl_inside _ _ _ _).mono ?_; rintro e w' ⟨rfl, rfl⟩))
    go_ret
    exact ⟨ret_int (by simp [portAt, isNode, ha]), bel⟩
  cases hb : inside b 0 (nodeCount m.g - 1)
  · go_wp2_with (first | (go_at_call 48; refine (impl_NodeCount m.g _).mono ?_; rintro e w1 ⟨rfl, hb1⟩; obtain ⟨hc1, hf1, hz1⟩ := bcell hb1; (try simp only [szs] at hz1); have hb2 := far2; obtain ⟨hc2, hf2, hz2⟩ := bcell hb2; (try simp only [szs] at hz2); try (first | obtain ⟨hy1, hy2, hy3, hy4⟩ := lts4 hz2 | obtain ⟨hy1, hy2, hy3⟩ := lts3 hz2 | obtain ⟨hy1, hy2⟩ := lts2 hz2 | have hy1 := lts1 hz2); have hb9 := hb1) | (go_at_call 115; refine (impl_MeshOk m _ _ _ (by exact Kd.C_below hr bel) hn).mono ?_; rintro e w1 ⟨rfl, hb1⟩; obtain ⟨hc1, hf1, hz1⟩ := bcell hb1; (try simp only [szs] at hz1); have hb2 := far2; obtain ⟨hc2, hf2, hz2⟩ := bcell hb2; (try simp only [szs] at hz2); try (first | obtain ⟨hy1, hy2, hy3, hy4⟩ := lts4 hz2 | obtain ⟨hy1, hy2, hy3⟩ := lts3 hz2 | obtain ⟨hy1, hy2⟩ := lts2 hz2 | have hy1 := lts1 hz2); have hb9 := hb1) | (go_at_call 52; refine (impl_inside _ _ _ _).mono ?_; rintro e w' ⟨rfl, rfl⟩))
    go_ret
    exact ⟨ret_int (by simp [portAt, isNode, hb]), bel⟩
  obtain ⟨p1, p2, p3, p4⟩ := entry_place (g := m.g) (a := a) (b := b) ha hb
  have p5 : 0 ≤ nodeCount m.g * nodeCount m.g := by omega
  have p6 : nodeCount m.g * nodeCount m.g ≤ 256 := Int.mul_le_mul n1 n1 n0 (by omega)
  by_cases hs : (t.length : Int) = nodeCount m.g * nodeCount m.g
  · have e1 : ((t.length : Int) != nodeCount m.g * nodeCount m.g) = false := bne_eq_false_iff_eq.2 hs
    have q4 : a * nodeCount m.g + b < (t.length : Int) := by omega
    have HS := Lib.hid hs
    clear hs
    obtain ⟨bb, off, rfl, hbl, hx⟩ := rdI_at ht (a * nodeCount m.g + b).toNat (by omega)
    have hxe := hx (a * nodeCount m.g + b).toNat (by omega)
    obtain ⟨z1, z2, z3, z4, z5, z6⟩ := more hbl
    clear hx
    rw [Int.toNat_of_nonneg p3] at hxe
    have hen : entry m t a b = ri t (a * nodeCount m.g + b) := rfl
    have HEN := Lib.hid hen
    clear hen
    cases hi : inside (ri t (a * nodeCount m.g + b)) 0 4
    · go_wp2_with (first | (go_at_call 48; refine (impl_NodeCount m.g _).mono ?_; rintro e w1 ⟨rfl, hb1⟩; obtain ⟨hc1, hf1, hz1⟩ := bcell hb1; (try simp only [szs] at hz1); have hb2 := far2; obtain ⟨hc2, hf2, hz2⟩ := bcell hb2; (try simp only [szs] at hz2); try (first | obtain ⟨hy1, hy2, hy3, hy4⟩ := lts4 hz2 | obtain ⟨hy1, hy2, hy3⟩ := lts3 hz2 | obtain ⟨hy1, hy2⟩ := lts2 hz2 | have hy1 := lts1 hz2); have hb9 := hb1) | (go_at_call 115; refine (impl_MeshOk m _ _ _ (by exact Kd.C_below hr bel) hn).mono ?_; rintro e w1 ⟨rfl, hb1⟩; obtain ⟨hc1, hf1, hz1⟩ := bcell hb1; (try simp only [szs] at hz1); have hb2 := far2; obtain ⟨hc2, hf2, hz2⟩ := bcell hb2; (try simp only [szs] at hz2); try (first | obtain ⟨hy1, hy2, hy3, hy4⟩ := lts4 hz2 | obtain ⟨hy1, hy2, hy3⟩ := lts3 hz2 | obtain ⟨hy1, hy2⟩ := lts2 hz2 | have hy1 := lts1 hz2); have hb9 := hb1) | (go_at_call 52; refine (impl_inside _ _ _ _).mono ?_; rintro e w' ⟨rfl, rfl⟩))
      go_ret
      exact ⟨ret_int (by simp [portAt, HEN.out, hi]), bel⟩
    · go_wp2_with (first | (go_at_call 48; refine (impl_NodeCount m.g _).mono ?_; rintro e w1 ⟨rfl, hb1⟩; obtain ⟨hc1, hf1, hz1⟩ := bcell hb1; (try simp only [szs] at hz1); have hb2 := far2; obtain ⟨hc2, hf2, hz2⟩ := bcell hb2; (try simp only [szs] at hz2); try (first | obtain ⟨hy1, hy2, hy3, hy4⟩ := lts4 hz2 | obtain ⟨hy1, hy2, hy3⟩ := lts3 hz2 | obtain ⟨hy1, hy2⟩ := lts2 hz2 | have hy1 := lts1 hz2); have hb9 := hb1) | (go_at_call 115; refine (impl_MeshOk m _ _ _ (by exact Kd.C_below hr bel) hn).mono ?_; rintro e w1 ⟨rfl, hb1⟩; obtain ⟨hc1, hf1, hz1⟩ := bcell hb1; (try simp only [szs] at hz1); have hb2 := far2; obtain ⟨hc2, hf2, hz2⟩ := bcell hb2; (try simp only [szs] at hz2); try (first | obtain ⟨hy1, hy2, hy3, hy4⟩ := lts4 hz2 | obtain ⟨hy1, hy2, hy3⟩ := lts3 hz2 | obtain ⟨hy1, hy2⟩ := lts2 hz2 | have hy1 := lts1 hz2); have hb9 := hb1) | (go_at_call 52; refine (impl_inside _ _ _ _).mono ?_; rintro e w' ⟨rfl, rfl⟩))
      go_ret
      exact ⟨ret_int (by rw [portAt_eq (sized_iff.2 ⟨hm, HS.out⟩) ha hb, HEN.out, if_pos hi]), bel⟩
  · have e1 : ((t.length : Int) != nodeCount m.g * nodeCount m.g) = true := bne_iff_ne.2 hs
    have HS := Lib.hid hs
    clear hs
    go_wp2_with (first | (go_at_call 48; refine (impl_NodeCount m.g _).mono ?_; rintro e w1 ⟨rfl, hb1⟩; obtain ⟨hc1, hf1, hz1⟩ := bcell hb1; (try simp only [szs] at hz1); have hb2 := far2; obtain ⟨hc2, hf2, hz2⟩ := bcell hb2; (try simp only [szs] at hz2); try (first | obtain ⟨hy1, hy2, hy3, hy4⟩ := lts4 hz2 | obtain ⟨hy1, hy2, hy3⟩ := lts3 hz2 | obtain ⟨hy1, hy2⟩ := lts2 hz2 | have hy1 := lts1 hz2); have hb9 := hb1) | (go_at_call 115; refine (impl_MeshOk m _ _ _ (by exact Kd.C_below hr bel) hn).mono ?_; rintro e w1 ⟨rfl, hb1⟩; obtain ⟨hc1, hf1, hz1⟩ := bcell hb1; (try simp only [szs] at hz1); have hb2 := far2; obtain ⟨hc2, hf2, hz2⟩ := bcell hb2; (try simp only [szs] at hz2); try (first | obtain ⟨hy1, hy2, hy3, hy4⟩ := lts4 hz2 | obtain ⟨hy1, hy2, hy3⟩ := lts3 hz2 | obtain ⟨hy1, hy2⟩ := lts2 hz2 | have hy1 := lts1 hz2); have hb9 := hb1) | (go_at_call 52; refine (impl_inside _ _ _ _).mono ?_; rintro e w' ⟨rfl, rfl⟩))
    go_ret
    exact ⟨ret_int (by simp [portAt, sized, HS.out]), bel⟩
end Go.Proofs.YtaihmgbflhbebaaGreat
