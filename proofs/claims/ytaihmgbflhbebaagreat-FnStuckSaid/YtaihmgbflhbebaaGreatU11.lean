/- Lemmas for laws of this seat, for all inputs: Tx Tz MarkM MarkN NY Idle. -/
import Derived.Test.YtaihmgbflhbebaaGreatU6
import Derived.Test.YtaihmgbflhbebaaGreatU3
import Derived.Test.YtaihmgbflhbebaaGreatU10
set_option linter.unusedVariables false
set_option linter.unusedSimpArgs false
namespace Go.Proofs.YtaihmgbflhbebaaGreat
open Go.RowKit Go.Proofs.YtaihmgbflhbebaaGreatW.PrintWords
def CK (w0 : World) (rb : Option Nat) (W : World) : Prop := w0.heap.size ≤ W.heap.size ∧ ∀ b, b < w0.heap.size → ¬ some b = rb → W.heap[b]? = w0.heap[b]?
theorem CK.drew {w : World} {rb : Option Nat} : CK w rb w.drew := ⟨Nat.le_refl _, fun _ _ _ => rfl⟩
theorem CK.alloc {w W : World} {rb : Option Nat} (h : CK w rb W) (o : Obj) : CK w rb (W.alloc o) := ⟨by rw [World.size_alloc]; exact Nat.le_succ_of_le h.1, fun i hi h1 => ((bw_alloc o (bw_refl W)).block i (Nat.lt_of_lt_of_le hi h.1)).trans (h.2 i hi h1)⟩
theorem CK.below {w W W2 : World} {rb : Option Nat} (h : CK w rb W) (hb : Below W.heap.size W W2) : CK w rb W2 := ⟨Nat.le_trans h.1 hb.size, fun i hi h1 => (hb.block i (Nat.lt_of_lt_of_le hi h.1)).trans (h.2 i hi h1)⟩
theorem CK.grown {w W W2 : World} {rb : Option Nat} (h : CK w rb W) (hb : W.grownBy W2 rb) : CK w rb W2 := ⟨Nat.le_trans h.1 hb.size, fun i hi h1 => (hb.block i (Nat.lt_of_lt_of_le hi h.1) h1).trans (h.2 i hi h1)⟩
theorem CK.cell {w W : World} {rb : Option Nat} (h : CK w rb W) {b o : Nat} (hb : b < w.heap.size) (hn : ¬ some b = rb) {v : Value} (h0 : w.cell? ⟨b, o, none⟩ = some v) : W.cell? ⟨b, o, none⟩ = some v := (World.cell?_of_block (a := ⟨b, o, none⟩) (h.2 b hb hn)).trans h0
theorem CK.frozen {w W : World} {rb : Option Nat} (h : CK w rb W) {b o : Nat} (hb : b < w.heap.size) (hn : ¬ some b = rb) (h0 : w.frozen? ⟨b, o, none⟩ = false) : W.frozen? ⟨b, o, none⟩ = false := (World.frozen?_of_block (a := ⟨b, o, none⟩) (h.2 b hb hn)).trans h0
section
variable {ops : Array Oper}
def goodTx (ops : Array Oper) : List Nat → List (Nat × LK) → Bool
  | _, [] => true
  | run, (j, .chain) :: rest => run.all (fun y => (anc ops 3 j).contains y) && goodTx ops [j] rest
  | run, (j, .lit) :: rest => goodTx ops (j :: run) rest
  | run, (_, .quiet) :: rest => goodTx ops run rest
theorem goodTx_mono : ∀ (l : List (Nat × LK)) (run run' : List Nat), (∀ y ∈ run', y ∈ run) → goodTx ops run l = true → goodTx ops run' l = true := by
  intro l
  induction l with
  | nil => intro _ _ _ _; rfl
  | cons x l ih =>
    intro run run' h hg
    obtain ⟨j, k⟩ := x
    cases k with
    | chain =>
      simp only [goodTx, Bool.and_eq_true, List.all_eq_true] at hg ⊢
      exact ⟨fun y hy => hg.1 y (h y hy), hg.2⟩
    | quiet => exact ih _ _ h hg
    | lit => exact ih _ _ (fun y hy => by rcases List.mem_cons.1 hy with rfl | hy; exact List.mem_cons_self .. ; exact List.mem_cons_of_mem _ (h y hy)) hg
theorem goodTx_tail {x : Nat × LK} {l : List (Nat × LK)} (h : goodTx ops [] (x :: l) = true) : goodTx ops [] l = true := by
  obtain ⟨j, k⟩ := x
  cases k with
  | chain =>
    simp only [goodTx, Bool.and_eq_true] at h
    exact goodTx_mono _ _ _ (fun y hy => by simp at hy) h.2
  | quiet => exact h
  | lit => exact goodTx_mono _ _ _ (fun y hy => by simp at hy) h
theorem goodTx_drop {b : Nat} {k : LK} (hk : k ≠ .chain) (l2 : List (Nat × LK)) : ∀ (l1 : List (Nat × LK)) (run : List Nat), goodTx ops run (l1 ++ (b, k) :: l2) = true → goodTx ops run (l1 ++ l2) = true := by
  intro l1
  induction l1 with
  | nil =>
    intro run h
    cases k with
    | chain => exact absurd rfl hk
    | quiet => exact h
    | lit => exact goodTx_mono _ _ _ (fun y hy => List.mem_cons_of_mem _ hy) h
  | cons x l1 ih =>
    intro run h
    obtain ⟨j, kj⟩ := x
    cases kj with
    | chain =>
      simp only [List.cons_append, goodTx, Bool.and_eq_true] at h ⊢
      exact ⟨h.1, ih _ h.2⟩
    | quiet => exact ih _ h
    | lit => exact ih _ h
theorem goodTx_dropc {b : Nat} (l2 : List (Nat × LK)) : ∀ (l1 : List (Nat × LK)), (∀ x ∈ l1, x.2 = .quiet) → goodTx ops [] (l1 ++ (b, .chain) :: l2) = true → goodTx ops [] (l1 ++ l2) = true := by
  intro l1
  induction l1 with
  | nil => intro _ h; exact goodTx_tail h
  | cons x l1 ih =>
    intro hq h
    obtain ⟨j, kj⟩ := x
    have := hq (j, kj) (by simp)
    simp only at this
    subst this
    exact ih (fun y hy => hq y (List.mem_cons_of_mem _ hy)) h
theorem goodTx_waits {j : Nat} : ∀ (l1 l2 : List (Nat × LK)) (run : List Nat), (run ≠ [] ∨ ∃ x ∈ l1, x.2 ≠ .quiet) → goodTx ops run (l1 ++ (j, .chain) :: l2) = true → ∃ y, (y ∈ run ∨ y ∈ l1.map (·.1)) ∧ y ∈ anc ops 3 j := by
  intro l1
  induction l1 with
  | nil =>
    intro l2 run hr h
    simp only [List.nil_append, goodTx, Bool.and_eq_true, List.all_eq_true] at h
    cases run with
    | nil => rcases hr with hr | ⟨x, hx, _⟩; exact absurd rfl hr; simp at hx
    | cons y r => exact ⟨y, .inl (by simp), by simpa using h.1 y (by simp)⟩
  | cons x l1 ih =>
    intro l2 run hr h
    obtain ⟨i, k⟩ := x
    cases k with
    | chain =>
      simp only [List.cons_append, goodTx, Bool.and_eq_true] at h
      obtain ⟨y, h1, h2⟩ := ih l2 [i] (.inl (by simp)) h.2
      refine ⟨y, .inr ?_, h2⟩
      rcases h1 with h1 | h1
      · simp only [List.mem_singleton] at h1; subst h1; simp
      · simp only [List.map_cons, List.mem_cons]; exact .inr h1
    | quiet =>
      have hq : run ≠ [] ∨ ∃ x ∈ l1, x.2 ≠ .quiet := by
        rcases hr with hr | ⟨x, hx, e⟩
        · exact .inl hr
        · rcases List.mem_cons.1 hx with rfl | hx
          · exact absurd rfl e
          · exact .inr ⟨x, hx, e⟩
      obtain ⟨y, h1, h2⟩ := ih l2 run hq h
      exact ⟨y, h1.imp id (fun h1 => by simp only [List.map_cons, List.mem_cons]; exact .inr h1), h2⟩
    | lit =>
      obtain ⟨y, h1, h2⟩ := ih l2 (i :: run) (.inl (by simp)) h
      refine ⟨y, ?_, h2⟩
      rcases h1 with h1 | h1
      · rcases List.mem_cons.1 h1 with rfl | h1
        · exact .inr (by simp)
        · exact .inl h1
      · exact .inr (by simp only [List.map_cons, List.mem_cons]; exact .inr h1)
def hasLit (l : List (Nat × LK)) : Bool := l.any (fun x => decide (x.2 = .lit))
theorem hasLit_mid {x : Nat × LK} (hx : x.2 ≠ .lit) (l1 l2 : List (Nat × LK)) : hasLit (l1 ++ x :: l2) = hasLit (l1 ++ l2) := by
  simp [hasLit, hx]
theorem hasLit_sub {x : Nat × LK} (l1 l2 : List (Nat × LK)) (h : hasLit (l1 ++ l2) = true) : hasLit (l1 ++ x :: l2) = true := by
  simp only [hasLit, List.any_append, List.any_cons, Bool.or_eq_true] at h ⊢
  rcases h with h | h
  · exact .inl h
  · exact .inr (.inr h)
def pairTx (ops : Array Oper) (x b : Nat × LK) : Bool := (decide (b.2 = .chain) && decide (x.2 = .chain)) || (anc ops 3 b.1).contains x.1 || (match ops[b.1]?, ops[x.1]? with | some ob, some ox => ob.apart ops ox | _, _ => false)
def pairsTx (ops : Array Oper) : List (Nat × LK) → Bool
  | [] => true
  | x :: r => r.all (pairTx ops x) && pairsTx ops r
theorem pairsTx_drop {x : Nat × LK} (l2 : List (Nat × LK)) : ∀ l1 : List (Nat × LK), pairsTx ops (l1 ++ x :: l2) = true → pairsTx ops (l1 ++ l2) = true := by
  intro l1
  induction l1 with
  | nil => intro h; simp only [List.nil_append, pairsTx, Bool.and_eq_true] at h ⊢; exact h.2
  | cons y l1 ih =>
    intro h
    simp only [List.cons_append, pairsTx, Bool.and_eq_true, List.all_eq_true] at h ⊢
    refine ⟨fun z hz => h.1 z ?_, ih h.2⟩
    rcases List.mem_append.1 hz with hz | hz
    · exact List.mem_append_left _ hz
    · exact List.mem_append_right _ (List.mem_cons_of_mem _ hz)
theorem pairsTx_at {x : Nat × LK} (l2 : List (Nat × LK)) : ∀ l1 : List (Nat × LK), pairsTx ops (l1 ++ x :: l2) = true → ∀ y ∈ l1, pairTx ops y x = true := by
  intro l1
  induction l1 with
  | nil => intro _ y hy; simp at hy
  | cons z l1 ih =>
    intro h y hy
    simp only [List.cons_append, pairsTx, Bool.and_eq_true, List.all_eq_true] at h
    rcases List.mem_cons.1 hy with rfl | hy
    · exact h.1 x (by simp)
    · exact ih h.2 y hy
end
section
variable (P : Program) (ops : Array Oper) (B : Nat) (lo : Nat → Obj) (C : World → Prop)
def QOk (a : Act) (o : Oper) (v : Value) : Prop := (Region.wanted o (yielded ops a.tmps) = true ∧ ∀ w, C w → (execOp a.eval o).run P w = .ok (.value v) w) ∨ (Region.wanted o (yielded ops a.tmps) = false ∧ v = undef)
def wpTx (vq : Nat → Value) (Z : Act → (World → Prop) → Prop) : List (Nat × LK) → List (Nat × Nat) → Act → (World → Prop) → Prop
  | [], _, a, F => Z a F
  | (i, .quiet) :: rest, iv, a, F => ∃ o v, ops[i]? = some o ∧ QOk P ops C a o v ∧ wpTx vq Z rest iv (a.put o.dst v) F
  | (i, .lit) :: rest, iv, a, F => ∃ o, ops[i]? = some o ∧ Region.wanted o (yielded ops a.tmps) = true ∧ (∀ w, (execOp a.eval o).run P w = .ok (.value (.pointer (some ⟨w.heap.size, 0, none⟩))) (w.alloc (lo i))) ∧ ∀ g : Nat, wpTx vq Z rest iv (a.put o.dst (.pointer (some ⟨g, 0, none⟩))) (fun W => F W ∧ B ≤ g ∧ W.heap[g]? = some (lo i) ∧ ∀ z ∈ iv, g < z.1 ∨ z.2 ≤ g)
  | (i, .chain) :: rest, iv, a, F => ∃ o, ops[i]? = some o ∧ Region.wanted o (yielded ops a.tmps) = true ∧ ∃ (ι : Type) (y0 : ι) (val : ι → Value) (G : ι → World → Prop) (I : ι → Nat × Nat), (∀ w, F w → C w → LoOp P o a w (fun v w' => ∃ y, v = val y ∧ C w' ∧ G y w' ∧ (hasLit rest = true → Below w.heap.size w w' ∧ w.heap.size ≤ (I y).1 ∧ (I y).2 ≤ w'.heap.size))) ∧ (hasLit rest = true → ∀ y w w', G y w → Below w.heap.size w w' → G y w') ∧ ∀ y, wpTx vq Z rest (I y :: iv) (a.put o.dst (val y)) (G y)
end
section
variable {P : Program} {ops : Array Oper} {B : Nat} {lo : Nat → Obj} {C : World → Prop} {vq : Nat → Value} {Z : Act → (World → Prop) → Prop} {iv : List (Nat × Nat)}
theorem wpTx_q {i : Nat} {rest : List (Nat × LK)} {a : Act} {F : World → Prop} {o : Oper} (d : Option Tmp) (ho : ops[i]? = some o) (hd : o.dst = d) (hw : Region.wanted o (yielded ops a.tmps) = true) (hr : ∀ w, C w → (execOp a.eval o).run P w = .ok (.value (vq i)) w) (h : wpTx P ops B lo C vq Z rest iv (a.put d (vq i)) F) : wpTx P ops B lo C vq Z ((i, .quiet) :: rest) iv a F := ⟨o, vq i, ho, .inl ⟨hw, hr⟩, hd ▸ h⟩
theorem QOk_put {a : Act} {o : Oper} {u : Value} (hs : ∀ cs b, o.op ≠ .select cs b) {d : Option Tmp} {v : Value} (c : ∀ x, d = some x → x ∉ o.looksAt ops) : QOk P ops C (a.put d v) o u ↔ QOk P ops C a o u := by
  unfold QOk
  rw [wanted_put o a d v c, execOp_put (ops := ops) o hs a d v c]
theorem QOk_one {a : Act} {o : Oper} {u v : Value} (hC : ∃ w, C w) (h1 : QOk P ops C a o u) (h2 : QOk P ops C a o v) : u = v := by
  obtain ⟨w, hw⟩ := hC
  rcases h1 with ⟨a1, b1⟩ | ⟨a1, b1⟩ <;> rcases h2 with ⟨a2, b2⟩ | ⟨a2, b2⟩
  · have h3 := (b1 w hw).symm.trans (b2 w hw)
    injection h3 with h3 _
    injection h3
  · rw [a1] at a2; cases a2
  · rw [a1] at a2; cases a2
  · rw [b1, b2]
theorem LoOp_mono {o : Oper} {a : Act} {w : World} {p1 p2 : Value → World → Prop} (h : LoOp P o a w p1) (hm : ∀ v w', p1 v w' → p2 v w') : LoOp P o a w p2 := by
  unfold LoOp at h ⊢
  generalize (execOp a.eval o).run P w = r at *
  cases r with
  | ok n w' =>
    cases n <;> simp only at h ⊢
    case value v => exact hm _ _ h
    case skip => exact ⟨h.1, hm _ _ h.2⟩
    case enter f args => exact Calls.mono h fun e w'' he => by obtain ⟨v, rfl, hp⟩ := he; exact ⟨v, rfl, hm _ _ hp⟩
  | halt x w' => exact h.elim
theorem wpTx_c {i : Nat} {rest : List (Nat × LK)} {a : Act} {F : World → Prop} {o : Oper} (d : Option Tmp) (ho : ops[i]? = some o) (hd : o.dst = d) (hw : Region.wanted o (yielded ops a.tmps) = true) {ι : Type} (y0 : ι) (val : ι → Value) (G : ι → World → Prop) (hr : ∀ w, F w → C w → LoOp P o a w (fun v w' => ∃ y, v = val y ∧ C w' ∧ G y w')) (h : ∀ y, wpTx P ops B lo C vq Z rest ((0, 0) :: iv) (a.put d (val y)) (G y)) (hnl : hasLit rest = false := by rfl) : wpTx P ops B lo C vq Z ((i, .chain) :: rest) iv a F :=
  have hn : hasLit rest = true → False := fun e => by rw [hnl] at e; cases e
  ⟨o, ho, hw, ι, y0, val, G, fun _ => (0, 0), fun w hF hC => LoOp_mono (hr w hF hC) (fun v w' ⟨y, h1, h2, h3⟩ => ⟨y, h1, h2, h3, fun e => (hn e).elim⟩), fun e => (hn e).elim, hd ▸ h⟩
theorem wpTx_z {a : Act} {F : World → Prop} (h : Z a F) : wpTx P ops B lo C vq Z [] iv a F := h
theorem wpTx_move (hCi : ∃ w, C w) (hsel : ∀ (j : Nat) (o : Oper) cs b, ops[j]? = some o → o.op ≠ .select cs b) {b : Nat} {ob : Oper} (hob : ops[b]? = some ob) (l2 : List (Nat × LK)) :
    ∀ (l1 : List (Nat × LK)) (iv : List (Nat × Nat)) (a : Act) (F : World → Prop), (∀ x ∈ l1, ∀ ox, ops[x.1]? = some ox → ob.apart ops ox = true) → wpTx P ops B lo C vq Z (l1 ++ (b, .quiet) :: l2) iv a F → wpTx P ops B lo C vq Z ((b, .quiet) :: (l1 ++ l2)) iv a F := by
  intro l1
  induction l1 with
  | nil => intro iv a F _ h; exact h
  | cons x l1 ih =>
    intro iv a F hap h
    obtain ⟨i, ki⟩ := x
    have hapr : ∀ y ∈ l1, ∀ oy, ops[y.1]? = some oy → ob.apart ops oy = true := fun y hy => hap y (by simp [hy])
    have core : ∀ ox, ops[i]? = some ox → (∀ d, ob.dst = some d → d ∉ ox.looksAt ops) ∧ (∀ d, ob.dst = some d → ox.dst ≠ some d) ∧ (∀ d, ox.dst = some d → d ∉ ob.looksAt ops) := fun ox hox => Oper.apart_spec (hap (i, ki) (by simp) ox hox)
    cases ki with
    | quiet =>
      obtain ⟨ox, v, h1, h2, h4⟩ := h
      obtain ⟨c1, c2, c3⟩ := core ox h1
      obtain ⟨ob', v', e1, e2, e4⟩ := ih _ _ _ hapr h4
      obtain rfl := Option.some.inj (hob.symm.trans e1)
      refine ⟨_, v', hob, (QOk_put (hsel b _ · · hob) c3).1 e2, ox, v, h1, (QOk_put (hsel i ox · · h1) c1).2 h2, ?_⟩
      rw [Act.put_comm a _ _ c2]
      exact e4
    | lit =>
      obtain ⟨ox, h1, h2, h3, h4⟩ := h
      obtain ⟨c1, c2, c3⟩ := core ox h1
      obtain ⟨ob', v', e1, e2, e4⟩ := ih _ _ _ hapr (h4 0)
      obtain rfl := Option.some.inj (hob.symm.trans e1)
      have e2' := (QOk_put (hsel b _ · · hob) c3).1 e2
      refine ⟨_, v', hob, e2', ox, h1, by rw [wanted_put ox a _ _ c1]; exact h2, fun w => by rw [execOp_put (ops := ops) ox (hsel i ox · · h1) a _ _ c1]; exact h3 w, fun g => ?_⟩
      obtain ⟨ob'', v'', f1, f2, f4⟩ := ih _ _ _ hapr (h4 g)
      obtain rfl := Option.some.inj (hob.symm.trans f1)
      obtain rfl := QOk_one hCi e2' ((QOk_put (hsel b _ · · hob) c3).1 f2)
      rw [Act.put_comm a _ _ c2]
      exact f4
    | chain =>
      obtain ⟨ox, h1, h2, ι, y0, val, G, I, h4, h6, h5⟩ := h
      obtain ⟨c1, c2, c3⟩ := core ox h1
      obtain ⟨ob', v', e1, e2, e4⟩ := ih _ _ _ hapr (h5 y0)
      obtain rfl := Option.some.inj (hob.symm.trans e1)
      have hm : hasLit (l1.append ((b, LK.quiet) :: l2)) = hasLit (l1 ++ l2) := hasLit_mid (x := (b, LK.quiet)) (by simp) l1 l2
      rw [hm] at h4 h6
      have e2' := (QOk_put (hsel b _ · · hob) c3).1 e2
      refine ⟨_, v', hob, e2', ox, h1, by rw [wanted_put ox a _ _ c1]; exact h2, ι, y0, val, G, I, fun w hF hC => (LoOp_put (hsel i ox · · h1) _ _ c1).2 (h4 w hF hC), h6, fun y => ?_⟩
      obtain ⟨ob'', v'', f1, f2, f4⟩ := ih _ _ _ hapr (h5 y)
      obtain rfl := Option.some.inj (hob.symm.trans f1)
      obtain rfl := QOk_one hCi e2' ((QOk_put (hsel b _ · · hob) c3).1 f2)
      rw [Act.put_comm a _ _ c2]
      exact f4
theorem wpTx_movec (hsel : ∀ (j : Nat) (o : Oper) cs b, ops[j]? = some o → o.op ≠ .select cs b) {b : Nat} {ob : Oper} (hob : ops[b]? = some ob) (l2 : List (Nat × LK)) :
    ∀ (l1 : List (Nat × LK)) (iv : List (Nat × Nat)) (a : Act) (F : World → Prop), (∀ x ∈ l1, x.2 = .quiet) → (∀ x ∈ l1, ∀ ox, ops[x.1]? = some ox → ob.apart ops ox = true) → wpTx P ops B lo C vq Z (l1 ++ (b, .chain) :: l2) iv a F → wpTx P ops B lo C vq Z ((b, .chain) :: (l1 ++ l2)) iv a F := by
  intro l1
  induction l1 with
  | nil => intro iv a F _ _ h; exact h
  | cons x l1 ih =>
    intro iv a F hq hap h
    obtain ⟨i, ki⟩ := x
    have := hq (i, ki) (by simp)
    simp only at this
    subst this
    have hapr : ∀ y ∈ l1, ∀ oy, ops[y.1]? = some oy → ob.apart ops oy = true := fun y hy => hap y (by simp [hy])
    have hqr : ∀ y ∈ l1, y.2 = LK.quiet := fun y hy => hq y (by simp [hy])
    obtain ⟨ox, v, h1, h2, h4⟩ := h
    obtain ⟨c1, c2, c3⟩ := Oper.apart_spec (hap (i, .quiet) (by simp) ox h1)
    obtain ⟨ob', e1, e2, ι, y0, val, G, I, e3, e6, e4⟩ := ih _ _ _ hqr hapr h4
    obtain rfl := Option.some.inj (hob.symm.trans e1)
    have hq3 : hasLit ((i, LK.quiet) :: l1 ++ l2) = hasLit (l1 ++ l2) := hasLit_mid (x := (i, LK.quiet)) (by simp) [] (l1 ++ l2)
    rw [← hq3] at e3 e6
    refine ⟨_, hob, by rw [← e2]; exact (wanted_put _ a ox.dst v c3).symm, ι, y0, val, G, I, fun w hF hC => (LoOp_put (hsel b _ · · hob) _ _ c3).1 (e3 w hF hC), e6, fun y => ?_⟩
    refine ⟨ox, v, h1, (QOk_put (hsel i ox · · h1) c1).2 h2, ?_⟩
    rw [Act.put_comm a _ _ c2]
    exact e4 y
theorem wpTx_movel (hsel : ∀ (j : Nat) (o : Oper) cs b, ops[j]? = some o → o.op ≠ .select cs b) {b : Nat} {ob : Oper} (hob : ops[b]? = some ob) (l2 : List (Nat × LK)) :
    ∀ (l1 : List (Nat × LK)) (iv : List (Nat × Nat)) (a : Act) (F : World → Prop), (∀ x ∈ l1, ∀ ox, ops[x.1]? = some ox → ob.apart ops ox = true) → wpTx P ops B lo C vq Z (l1 ++ (b, .lit) :: l2) iv a F → wpTx P ops B lo C vq Z ((b, .lit) :: (l1 ++ l2)) iv a F := by
  intro l1
  induction l1 with
  | nil => intro iv a F _ h; exact h
  | cons x l1 ih =>
    intro iv a F hap h
    obtain ⟨i, ki⟩ := x
    have hapr : ∀ y ∈ l1, ∀ oy, ops[y.1]? = some oy → ob.apart ops oy = true := fun y hy => hap y (by simp [hy])
    have core : ∀ ox, ops[i]? = some ox → (∀ d, ob.dst = some d → d ∉ ox.looksAt ops) ∧ (∀ d, ob.dst = some d → ox.dst ≠ some d) ∧ (∀ d, ox.dst = some d → d ∉ ob.looksAt ops) := fun ox hox => Oper.apart_spec (hap (i, ki) (by simp) ox hox)
    cases ki with
    | quiet =>
      obtain ⟨ox, v, h1, h2, h4⟩ := h
      obtain ⟨c1, c2, c3⟩ := core ox h1
      obtain ⟨ob', e1, e2, e3, e4⟩ := ih _ _ _ hapr h4
      obtain rfl := Option.some.inj (hob.symm.trans e1)
      refine ⟨_, hob, by rw [← e2]; exact (wanted_put _ a ox.dst _ c3).symm, fun w => by rw [← execOp_put (ops := ops) _ (hsel b _ · · hob) a ox.dst v c3]; exact e3 w, fun g => ?_⟩
      refine ⟨ox, v, h1, (QOk_put (hsel i ox · · h1) c1).2 h2, ?_⟩
      rw [Act.put_comm a _ _ c2]
      exact e4 g
    | lit =>
      obtain ⟨ox, h1, h2, h3, h4⟩ := h
      obtain ⟨c1, c2, c3⟩ := core ox h1
      obtain ⟨ob', e1, e2, e3, e4⟩ := ih _ _ _ hapr (h4 0)
      obtain rfl := Option.some.inj (hob.symm.trans e1)
      refine ⟨_, hob, by rw [← e2]; exact (wanted_put _ a ox.dst _ c3).symm, fun w => by rw [← execOp_put (ops := ops) _ (hsel b _ · · hob) a ox.dst (.pointer (some ⟨0, 0, none⟩)) c3]; exact e3 w, fun g => ?_⟩
      refine ⟨ox, h1, by rw [wanted_put ox a _ _ c1]; exact h2, fun w => by rw [execOp_put (ops := ops) ox (hsel i ox · · h1) a _ _ c1]; exact h3 w, fun g2 => ?_⟩
      obtain ⟨ob'', f1, f2, f3, f4⟩ := ih _ _ _ hapr (h4 g2)
      obtain rfl := Option.some.inj (hob.symm.trans f1)
      rw [Act.put_comm a _ _ c2]
      have hfun : (fun W : World => (F W ∧ B ≤ g ∧ W.heap[g]? = some (lo b) ∧ ∀ z ∈ iv, g < z.1 ∨ z.2 ≤ g) ∧ B ≤ g2 ∧ W.heap[g2]? = some (lo i) ∧ ∀ z ∈ iv, g2 < z.1 ∨ z.2 ≤ g2) = (fun W : World => (F W ∧ B ≤ g2 ∧ W.heap[g2]? = some (lo i) ∧ ∀ z ∈ iv, g2 < z.1 ∨ z.2 ≤ g2) ∧ B ≤ g ∧ W.heap[g]? = some (lo b) ∧ ∀ z ∈ iv, g < z.1 ∨ z.2 ≤ g) := by
        funext W
        apply propext
        constructor <;> (rintro ⟨⟨x, y⟩, z⟩; exact ⟨⟨x, z⟩, y⟩)
      rw [hfun]
      exact f4 g
    | chain =>
      obtain ⟨ox, h1, h2, ι, y0, val, G, I, h4, h6, h5⟩ := h
      obtain ⟨c1, c2, c3⟩ := core ox h1
      obtain ⟨ob', e1, e2, e3, e4⟩ := ih _ _ _ hapr (h5 y0)
      obtain rfl := Option.some.inj (hob.symm.trans e1)
      have hl : hasLit (l1 ++ (b, LK.lit) :: l2) = true := by simp [hasLit]
      refine ⟨_, hob, by rw [← e2]; exact (wanted_put _ a ox.dst _ c3).symm, fun w => by rw [← execOp_put (ops := ops) _ (hsel b _ · · hob) a ox.dst (val y0) c3]; exact e3 w, fun g => ?_⟩
      have hstay : ∀ w w' : World, Below w.heap.size w w' → w.heap[g]? = some (lo b) → w'.heap[g]? = some (lo b) := fun w w' hb e => (hb.block g (Array.getElem?_eq_some_iff.1 e).1).trans e
      refine ⟨ox, h1, by rw [wanted_put ox a _ _ c1]; exact h2, ι, y0, val, fun y W => G y W ∧ B ≤ g ∧ W.heap[g]? = some (lo b) ∧ ∀ z ∈ I y :: iv, g < z.1 ∨ z.2 ≤ g, I, fun w hF hC => (LoOp_put (hsel i ox · · h1) _ _ c1).2 (LoOp_mono (h4 w hF.1 hC) (fun v w' ⟨y, k1, k2, k3, k4⟩ => ⟨y, k1, k2, ⟨k3, hF.2.1, hstay w w' (k4 hl).1 hF.2.2.1, fun z hz => by
        rcases List.mem_cons.1 hz with rfl | hz
        · exact .inl (Nat.lt_of_lt_of_le (Array.getElem?_eq_some_iff.1 hF.2.2.1).1 (k4 hl).2.1)
        · exact hF.2.2.2 z hz⟩, fun _ => k4 hl⟩)), fun _ y w w' hG hb => ⟨h6 hl y w w' hG.1 hb, hG.2.1, hstay w w' hb hG.2.2.1, hG.2.2.2⟩, fun y => ?_⟩
      obtain ⟨ob'', f1, f2, f3, f4⟩ := ih _ _ _ hapr (h5 y)
      obtain rfl := Option.some.inj (hob.symm.trans f1)
      rw [Act.put_comm a _ _ c2]
      exact f4 g
theorem tx_sound {Q : Exit → Act → World → Prop} {m : Nat} (hfin : ∀ a F, Z a F → ∀ w, F w → C w → ∃ om, ops[m]? = some om ∧ Region.wanted om (yielded ops a.tmps) = true ∧ Oper.wp P om a w (fun a' w' => Q .normal a' w') Q)
  (hns : Region.noSelect ops = true) (hsz : ops.size = m + 1) (hlast : lastLo ops m = true) (hback : backLo ops = true) :
  ∀ (fuel : Nat) (l : List (Nat × LK)) (listed : Array Bool) (iv : List (Nat × Nat)) (a : Act) (w : World) (F : World → Prop), l.length + 1 ≤ fuel → LoInv ops m l listed → goodTx ops [] l = true → pairsTx ops l = true → (hasLit l = true → (∀ w o, C w → C (w.alloc o)) ∧ (∀ w, C w → B ≤ w.heap.size)) → (hasLit l = true → ∀ w w', F w → Below w.heap.size w w' → F w') → (hasLit l = true → ∀ z ∈ iv, z.2 ≤ w.heap.size) → F w → C w → wpTx P ops B lo C vq Z l iv a F → wpAny P .any ops Q fuel listed a w := by
 intro fuel
 induction fuel with
 | zero => intro l listed iv a w F h; omega
 | succ fuel ih =>
  intro l listed iv a w F hf hI hg hp hLC hLF hIv hF hC hw
  have hsel := Region.noSelect_spec hns
  refine ⟨fun hr => ?_, fun i hi => ?_⟩
  ·exfalso
   cases l with
   | nil =>
    have hm : m ∈ Region.ready .any ops listed := by
     have hms : m < ops.size := by omega
     refine mem_ready.2 ⟨hI.last, ops[m], Array.getElem?_eq_getElem hms, fun e he hb => ?_⟩
     have hlt := back_at hback (Array.getElem?_eq_getElem hms) e he hb
     have h1 := (hI.mem e.on hlt)
     rcases Bool.eq_false_or_eq_true (listed.getD e.on false) with h2 | h2
     ·exact h2
     ·exfalso
      have := h1.1 ((getD_two (by rw [hI.size]; omega)).2 (by simp [h2]))
      simp at this
    rw [hr] at hm
    cases hm
   | cons x l =>
    obtain ⟨j, k⟩ := x
    have hjm : j < m := hI.lt (j, k) (by simp)
    have hj : j ∈ Region.ready .any ops listed := by
     have hjs : j < ops.size := by omega
     refine mem_ready.2 ⟨(hI.mem j hjm).2 (by simp), ops[j], Array.getElem?_eq_getElem hjs, fun e he hb => ?_⟩
     have hlt := back_at hback (Array.getElem?_eq_getElem hjs) e he hb
     have h1 := (hI.mem e.on (by omega))
     rcases Bool.eq_false_or_eq_true (listed.getD e.on false) with h2 | h2
     ·exact h2
     ·exfalso
      have h3 := h1.1 ((getD_two (by rw [hI.size]; omega)).2 (by simp [h2]))
      obtain ⟨y, hy, e2⟩ := List.mem_map.1 h3
      rcases List.mem_cons.1 hy with rfl | hy
      ·simp only at e2; omega
      ·have := (List.pairwise_cons.1 hI.sorted).1 y hy
       simp only at this e2
       omega
    rw [hr] at hj
    cases hj
  ·obtain ⟨h0, o, ho, hall⟩ := mem_ready.1 hi
   have hil : ∀ y, listed.getD y false = true → y < m → y ∉ l.map (·.1) := fun y hy hym hmem => by
    have h1 := (hI.mem y hym).2 hmem
    have h2 : y < listed.size := by rw [hI.size]; omega
    rw [getD_two h2] at h1
    exact h1 hy
   have his : i < ops.size := (Array.getElem?_eq_some_iff.1 ho).1
   rcases Nat.lt_or_ge i m with him | him
   ·-- one of l
    have hmem := (hI.mem i him).1 h0
    obtain ⟨x, hx, ex⟩ := List.mem_map.1 hmem
    obtain ⟨l1, l2, rfl⟩ := List.append_of_mem hx
    obtain ⟨i', k⟩ := x
    simp only at ex
    subst ex
    have hanc : ∀ y ∈ anc ops 3 i', listed.getD y false = true := anc_listed hI.down 3 i' (fun o' ho' e he hb => by obtain rfl := Option.some.inj (ho.symm.trans ho'); exact hall e he hb)
    have hI2 := hI.next hi
    have hp2 := pairsTx_drop _ l1 hp
    have hlen : (l1 ++ l2).length + 1 ≤ fuel := by simp only [List.length_append, List.length_cons] at hf ⊢; omega
    cases k with
    | chain =>
     have hl1 : ∀ x ∈ l1, x.2 = .quiet := by
      intro x hx
      by_cases hqx : x.2 = .quiet
      ·exact hqx
      ·exfalso
       obtain ⟨y, hy, ha⟩ := goodTx_waits l1 l2 [] (.inr ⟨_, hx, hqx⟩) hg
       rcases hy with hy | hy
       ·simp at hy
       have hmemy : y ∈ (l1 ++ (i', LK.chain) :: l2).map (·.1) := by
        rw [List.map_append]
        exact List.mem_append_left _ hy
       obtain ⟨z, hz, ez⟩ := List.mem_map.1 hmemy
       exact hil y (hanc y ha) (by have := hI.lt z hz; omega) hmemy
     have hap : ∀ x ∈ l1, ∀ ox, ops[x.1]? = some ox → o.apart ops ox = true := fun x hx ox hox => by
      have h1 := pairsTx_at l2 l1 hp x hx
      unfold pairTx at h1
      rw [ho, hox, hl1 x hx] at h1
      simp only [Bool.or_eq_true, Bool.and_eq_true, decide_eq_true_eq] at h1
      rcases h1 with (h1 | h1) | h1
      ·cases h1.2
      ·exfalso
       exact hil x.1 (hanc x.1 (by simpa using h1)) (hI.lt x (List.mem_append_left _ hx)) (List.mem_map_of_mem (List.mem_append_left _ hx))
      ·exact h1
     obtain ⟨o', e1, e2, ι, y0, val, G, I, h4, h6, h5⟩ := wpTx_movec hsel ho l2 l1 iv a F hl1 hap hw
     obtain rfl := Option.some.inj (ho.symm.trans e1)
     unfold wpOp
     simp only [ho, e2, if_true]
     refine .inl ((h4 w hF hC).wp (fun v w' hpost => ?_))
     obtain ⟨y, rfl, hS, hG, hbb⟩ := hpost
     exact ih _ _ (I y :: iv) _ w' _ hlen hI2 (goodTx_dropc l2 l1 hl1 hg) hp2 (fun h => hLC (hasLit_sub l1 l2 h)) (fun h => h6 h y) (fun h z hz => by
      rcases List.mem_cons.1 hz with rfl | hz
      ·exact (hbb h).2.2
      ·exact Nat.le_trans (hIv (hasLit_sub l1 l2 h) z hz) (bw_size (hbb h).1)) hG hS (h5 y)
    | quiet =>
     have hap : ∀ x ∈ l1, ∀ ox, ops[x.1]? = some ox → o.apart ops ox = true := fun x hx ox hox => by
      have h1 := pairsTx_at l2 l1 hp x hx
      unfold pairTx at h1
      rw [ho, hox] at h1
      simp only [Bool.or_eq_true, Bool.and_eq_true, decide_eq_true_eq] at h1
      rcases h1 with (h1 | h1) | h1
      ·cases h1.1
      ·exfalso
       exact hil x.1 (hanc x.1 (by simpa using h1)) (hI.lt x (List.mem_append_left _ hx)) (List.mem_map_of_mem (List.mem_append_left _ hx))
      ·exact h1
     obtain ⟨o', v', e1, e2, e4⟩ := wpTx_move ⟨w, hC⟩ hsel ho l2 l1 iv a F hap hw
     obtain rfl := Option.some.inj (ho.symm.trans e1)
     unfold wpOp
     rcases e2 with ⟨e2, e3⟩ | ⟨e2, e3⟩
     ·simp only [ho, e2, if_true]
      refine .inl ?_
      unfold Oper.wp
      rw [e3 w hC]
      exact ih _ _ iv _ w F hlen hI2 (goodTx_drop (by decide) l2 l1 [] hg) hp2 (fun h => hLC (hasLit_sub l1 l2 h)) (fun h => hLF (hasLit_sub l1 l2 h)) (fun h => hIv (hasLit_sub l1 l2 h)) hF hC e4
     ·simp only [ho, e2, Bool.false_eq_true, if_false]
      rw [← e3]
      exact ih _ _ iv _ w F hlen hI2 (goodTx_drop (by decide) l2 l1 [] hg) hp2 (fun h => hLC (hasLit_sub l1 l2 h)) (fun h => hLF (hasLit_sub l1 l2 h)) (fun h => hIv (hasLit_sub l1 l2 h)) hF hC e4
    | lit =>
     have hap : ∀ x ∈ l1, ∀ ox, ops[x.1]? = some ox → o.apart ops ox = true := fun x hx ox hox => by
      have h1 := pairsTx_at l2 l1 hp x hx
      unfold pairTx at h1
      rw [ho, hox] at h1
      simp only [Bool.or_eq_true, Bool.and_eq_true, decide_eq_true_eq] at h1
      rcases h1 with (h1 | h1) | h1
      ·cases h1.1
      ·exfalso
       exact hil x.1 (hanc x.1 (by simpa using h1)) (hI.lt x (List.mem_append_left _ hx)) (List.mem_map_of_mem (List.mem_append_left _ hx))
      ·exact h1
     have hl : hasLit (l1 ++ (i', LK.lit) :: l2) = true := by simp [hasLit]
     obtain ⟨hCA, hCB⟩ := hLC hl
     obtain ⟨o', e1, e2, e3, e4⟩ := wpTx_movel hsel ho l2 l1 iv a F hap hw
     obtain rfl := Option.some.inj (ho.symm.trans e1)
     unfold wpOp
     simp only [ho, e2, if_true]
     refine .inl ?_
     unfold Oper.wp
     rw [e3 w]
     have hbw : Below w.heap.size w (w.alloc (lo i')) := bw_alloc _ (bw_refl w)
     refine ih _ _ iv _ (w.alloc (lo i')) _ hlen hI2 (goodTx_drop (by decide) l2 l1 [] hg) hp2 (fun h => hLC (hasLit_sub l1 l2 h)) (fun _ w1 w2 hF1 hb => ⟨hLF hl w1 w2 hF1.1 hb, hF1.2.1, (hb.block _ (Array.getElem?_eq_some_iff.1 hF1.2.2.1).1).trans hF1.2.2.1, hF1.2.2.2⟩) (fun _ z hz => Nat.le_trans (hIv hl z hz) (bw_size hbw)) ⟨hLF hl w _ hF hbw, hCB w hC, ?_, fun z hz => .inr (hIv hl z hz)⟩ (hCA w _ hC) (e4 w.heap.size)
     show (w.heap.push (lo i'))[w.heap.size]? = some (lo i')
     exact Array.getElem?_push_size ..
   ·-- the last
    obtain rfl : i = m := by omega
    have hl : l = [] := by
     cases l with
     | nil => rfl
     | cons x l =>
      exfalso
      have hx := hI.lt x (by simp)
      unfold lastLo at hlast
      rw [ho] at hlast
      simp only [List.all_eq_true, List.mem_range] at hlast
      have h1 := hlast x.1 hx
      obtain ⟨ei, hei, h2⟩ := Array.any_eq_true.1 h1
      rw [Bool.and_eq_true, decide_eq_true_eq] at h2
      exact hil x.1 (by rw [← h2.2]; exact hall _ (Array.getElem_mem hei) h2.1) hx (by simp)
    subst hl
    obtain ⟨om, e1, e2, e3⟩ := hfin a F hw w hF hC
    obtain rfl := Option.some.inj (ho.symm.trans e1)
    unfold wpOp
    simp only [ho, e2, if_true]
    refine .inl (Oper.wp_mono (fun a' w' hq => lo_done ?_ hq fuel) e3)
    rw [List.eq_nil_iff_forall_not_mem]
    intro j hj
    obtain ⟨h1, oj, hoj, _⟩ := mem_ready.1 hj
    have hjs : j < ops.size := (Array.getElem?_eq_some_iff.1 hoj).1
    by_cases e : i = j
    ·subst e
     have : i < listed.size := by rw [hI.size]; exact his
     simp [this] at h1
    ·rw [getD_set_ne true e] at h1
     have := (hI.mem j (by omega)).1 h1
     simp at this
theorem LoOp.of_app {o : Oper} {a : Act} {W : World} {s x : Operand} {t : TypeId} {post : Value → World → Prop} {d : Nat} (ho : o.op = .call { callee := .builtin .append, args := #[s, x], argTypes := #[t, t] }) (hd : o.dst = some d) (hz : d < a.tmps.size)
    (h : Oper.wp P o a W (fun a' w' => post (a'.tmps.getD d undef) w') (fun _ _ _ => False)) : LoOp P o a W post := by
  cases hr : (Builtin.append_ #[t, t] o.type #[a.eval s, a.eval x]).run P W with
  | ok v W1 =>
    have e := run_append_op (P := P) ho rfl rfl hr
    unfold Oper.wp at h
    rw [e] at h
    refine LoOp.val e ?_
    simp only [Oper.upon] at h
    rw [hd] at h
    simpa [Act.put, hz] using h
  | halt e W1 =>
    exfalso
    have e2 : (execOp a.eval o).run P W = .halt e W1 := by
      unfold execOp
      simp only [ho, resolve, invoke, builtin, Sem.run_bind, Sem.run_pure, Result.andThen_ok, List.map_toArray, List.map_cons, List.map_nil, hr]
      try rfl
    unfold Oper.wp at h
    rw [e2] at h
    simp only [Oper.upon] at h
    first | exact h | (cases e <;> simp at h) | skip
theorem LoOp.of_if {o : Oper} {a : Act} {W : World} {s x : Operand} {t : TypeId} {post : Value → World → Prop} {d : Nat} (ho : o.op = .call { callee := .builtin .append, args := #[s, x], argTypes := #[t, t] }) (hd : o.dst = some d) (hz : d < a.tmps.size) (hw : Region.wanted o (yielded ops a.tmps) = true)
    (h : if Region.wanted o (yielded ops a.tmps) = true then Oper.wp P o a W (fun a' w' => post (a'.tmps.getD d undef) w') (fun _ _ _ => False) else (fun a' w' => post (a'.tmps.getD d undef) w') (a.put o.dst undef) W) : LoOp P o a W post := by
  rw [if_pos hw] at h
  exact LoOp.of_app ho hd hz h
theorem wp_region_tx {Q : Exit → Act → World → Prop} {id : Nat} {a : Act} {w : World} (C : World → Prop) (vq : Nat → Value) (m : Nat) (l : List (Nat × LK)) (hm : P.follows .mixedOrders = true)
    (hns : Region.noSelect ops = true) (hsz : ops.size = m + 1) (hl : l.map (·.1) = List.range m) (hlast : lastLo ops m = true) (hback : backLo ops = true) (hg : goodTx ops [] l = true) (hp : pairsTx ops l = true) (hC : C w.drew) (F0 : World → Prop) (hF0 : F0 w.drew)
    (h : wpTx P ops 0 (fun _ => .cells #[] 0) C vq (lastZ P ops C Q m) l [] a F0) (hnl : hasLit l = false := by rfl) : (Code.region id ops true).wp P Q a w := by
  refine wp_region_any hm ?_
  have hlen : l.length = m := by have := congrArg List.length hl; simpa using this
  refine tx_sound (P := P) (B := 0) (lo := fun _ => .cells #[] 0) (C := C) (vq := vq) (Z := lastZ P ops C Q m) (m := m) (fun a F hz w hF hc => hz w hF hc) hns hsz hlast hback ops.size l _ [] a _ F0 (by omega) ⟨by simp, fun i hi => ?_, fun x hx => ?_, ?_, fun j oj hoj hj => ?_, ?_⟩ hg hp (fun e => by rw [hnl] at e; cases e) (fun e => by rw [hnl] at e; cases e) (fun _ z hz => by simp at hz) hF0 hC h
  · have hi2 : i < ops.size := by omega
    rw [hl]
    simp [hi2, hi]
  · have : x.1 ∈ l.map (·.1) := List.mem_map_of_mem hx
    rw [hl] at this
    simpa using this
  · have : m < ops.size := by omega
    simp [this]
  · exfalso
    by_cases h1 : j < ops.size
    · simp [h1] at hj
    · simp [h1] at hj
  · have h1 : (l.map (·.1)).Pairwise (· < ·) := by rw [hl]; exact List.pairwise_lt_range
    rwa [List.pairwise_map] at h1
end
def lastA (ops : Array Oper) (m : Nat) : Bool := (List.range m).all fun j => (anc ops 4 m).contains j
def Upw (B : Nat) (w w' : World) : Prop := w.heap.size ≤ w'.heap.size ∧ ∀ i, B ≤ i → i < w.heap.size → w'.heap[i]? = w.heap[i]?
theorem Upw.of {B : Nat} {w w' : World} (h : Below w.heap.size w w') : Upw B w w' := ⟨h.size, fun i _ hi => h.block i hi⟩
section
variable (P : Program) (ops : Array Oper) (B : Nat) (lo : Nat → Obj) (lv : Nat → Nat → Value) (C : World → Prop)
def wpTz (Z : Act → (World → Prop) → Prop) : List (Nat × LK) → List (Nat × Nat) → Act → (World → Prop) → Prop
  | [], _, a, F => Z a F
  | (i, .quiet) :: rest, iv, a, F => ∃ o v, ops[i]? = some o ∧ QOk P ops C a o v ∧ wpTz Z rest iv (a.put o.dst v) F
  | (i, .lit) :: rest, iv, a, F => ∃ o, ops[i]? = some o ∧ Region.wanted o (yielded ops a.tmps) = true ∧ (∀ w, (execOp a.eval o).run P w = .ok (.value (lv i w.heap.size)) (w.alloc (lo i))) ∧ ∀ g : Nat, wpTz Z rest ((g, g + 1) :: iv) (a.put o.dst (lv i g)) (fun W => F W ∧ B ≤ g ∧ W.heap[g]? = some (lo i) ∧ ∀ z ∈ iv, g < z.1 ∨ z.2 ≤ g)
  | (i, .chain) :: rest, iv, a, F => ∃ o, ops[i]? = some o ∧ Region.wanted o (yielded ops a.tmps) = true ∧ ∃ (ι : Type) (y0 : ι) (val : ι → Value) (G : ι → World → Prop) (I : ι → Nat × Nat), (∀ w, F w → C w → LoOp P o a w (fun v w' => ∃ y, v = val y ∧ C w' ∧ G y w' ∧ (hasLit rest = true → Upw B w w' ∧ w.heap.size ≤ (I y).1 ∧ (I y).2 ≤ w'.heap.size))) ∧ (hasLit rest = true → ∀ y w w', G y w → Below w.heap.size w w' → G y w') ∧ ∀ y, wpTz Z rest (I y :: iv) (a.put o.dst (val y)) (G y)
end
section
variable {P : Program} {ops : Array Oper} {B : Nat} {lo : Nat → Obj} {lv : Nat → Nat → Value} {C : World → Prop} {Z : Act → (World → Prop) → Prop} {iv : List (Nat × Nat)}
theorem wpTz_v {i : Nat} {rest : List (Nat × LK)} {a : Act} {F : World → Prop} {o : Oper} (d : Option Tmp) (v : Value) (ho : ops[i]? = some o) (hd : o.dst = d) (hw : Region.wanted o (yielded ops a.tmps) = true) (hr : ∀ w, C w → (execOp a.eval o).run P w = .ok (.value v) w) (h : wpTz P ops B lo lv C Z rest iv (a.put d v) F) : wpTz P ops B lo lv C Z ((i, .quiet) :: rest) iv a F := ⟨o, v, ho, .inl ⟨hw, hr⟩, hd ▸ h⟩
theorem wpTz_d {i : Nat} {rest : List (Nat × LK)} {a : Act} {F : World → Prop} {o : Oper} (d : Option Tmp) (ho : ops[i]? = some o) (hd : o.dst = d) (hw : Region.wanted o (yielded ops a.tmps) = true) {ι : Type} (y0 : ι) (val : ι → Value) (G : ι → World → Prop) (I : ι → Nat × Nat) (hr : ∀ w, F w → C w → LoOp P o a w (fun v w' => ∃ y, v = val y ∧ C w' ∧ G y w' ∧ Below w.heap.size w w' ∧ w.heap.size ≤ (I y).1 ∧ (I y).2 ≤ w'.heap.size)) (hs : ∀ y w w', G y w → Below w.heap.size w w' → G y w') (h : ∀ y, wpTz P ops B lo lv C Z rest (I y :: iv) (a.put d (val y)) (G y)) : wpTz P ops B lo lv C Z ((i, .chain) :: rest) iv a F :=
  ⟨o, ho, hw, ι, y0, val, G, I, fun w hF hC => LoOp_mono (hr w hF hC) (fun v w' ⟨y, h1, h2, h3, h4⟩ => ⟨y, h1, h2, h3, fun _ => ⟨Upw.of h4.1, h4.2⟩⟩), fun _ => hs, hd ▸ h⟩
theorem wpTz_l {i : Nat} {rest : List (Nat × LK)} {a : Act} {F : World → Prop} {o : Oper} (d : Option Tmp) (ho : ops[i]? = some o) (hd : o.dst = d) (hw : Region.wanted o (yielded ops a.tmps) = true) (hr : ∀ w, (execOp a.eval o).run P w = .ok (.value (lv i w.heap.size)) (w.alloc (lo i))) (h : ∀ g : Nat, wpTz P ops B lo lv C Z rest ((g, g + 1) :: iv) (a.put d (lv i g)) (fun W => F W ∧ B ≤ g ∧ W.heap[g]? = some (lo i) ∧ ∀ z ∈ iv, g < z.1 ∨ z.2 ≤ g)) : wpTz P ops B lo lv C Z ((i, .lit) :: rest) iv a F := ⟨o, ho, hw, hr, hd ▸ h⟩
theorem wpTz_z {a : Act} {F : World → Prop} (h : Z a F) : wpTz P ops B lo lv C Z [] iv a F := h
theorem wpTz_perm : ∀ (l : List (Nat × LK)) (iv iv' : List (Nat × Nat)) (a : Act) (F : World → Prop), (∀ z, z ∈ iv ↔ z ∈ iv') → wpTz P ops B lo lv C Z l iv a F → wpTz P ops B lo lv C Z l iv' a F := by
  intro l
  induction l with
  | nil => intro _ _ _ _ _ h; exact h
  | cons x l ih =>
    intro iv iv' a F hm h
    obtain ⟨i, k⟩ := x
    have hc : ∀ u z, z ∈ u :: iv ↔ z ∈ u :: iv' := fun u z => by simp only [List.mem_cons, hm]
    cases k with
    | quiet =>
      obtain ⟨o, v, h1, h2, h3⟩ := h
      exact ⟨o, v, h1, h2, ih _ _ _ _ hm h3⟩
    | lit =>
      obtain ⟨o, h1, h2, h3, h4⟩ := h
      refine ⟨o, h1, h2, h3, fun g => ?_⟩
      have e : (fun W : World => F W ∧ B ≤ g ∧ W.heap[g]? = some (lo i) ∧ ∀ z ∈ iv', g < z.1 ∨ z.2 ≤ g) = (fun W : World => F W ∧ B ≤ g ∧ W.heap[g]? = some (lo i) ∧ ∀ z ∈ iv, g < z.1 ∨ z.2 ≤ g) := by
        funext W
        simp only [hm]
      rw [e]
      exact ih _ _ _ _ (hc _) (h4 g)
    | chain =>
      obtain ⟨o, h1, h2, ι, y0, val, G, I, h3, h4, h5⟩ := h
      exact ⟨o, h1, h2, ι, y0, val, G, I, h3, h4, fun y => ih _ _ _ _ (hc _) (h5 y)⟩
theorem mem_swap {α : Type} (a b : α) (l : List α) : ∀ z, z ∈ a :: b :: l ↔ z ∈ b :: a :: l := fun z => by
  simp only [List.mem_cons]
  constructor <;> rintro (h | h | h) <;> simp [h]
theorem wpTz_move (hCi : ∃ w, C w) (hsel : ∀ (j : Nat) (o : Oper) cs b, ops[j]? = some o → o.op ≠ .select cs b) {b : Nat} {ob : Oper} (hob : ops[b]? = some ob) (l2 : List (Nat × LK)) :
    ∀ (l1 : List (Nat × LK)) (iv : List (Nat × Nat)) (a : Act) (F : World → Prop), (∀ x ∈ l1, ∀ ox, ops[x.1]? = some ox → ob.apart ops ox = true) → wpTz P ops B lo lv C Z (l1 ++ (b, .quiet) :: l2) iv a F → wpTz P ops B lo lv C Z ((b, .quiet) :: (l1 ++ l2)) iv a F := by
  intro l1
  induction l1 with
  | nil => intro iv a F _ h; exact h
  | cons x l1 ih =>
    intro iv a F hap h
    obtain ⟨i, ki⟩ := x
    have hapr : ∀ y ∈ l1, ∀ oy, ops[y.1]? = some oy → ob.apart ops oy = true := fun y hy => hap y (by simp [hy])
    have core : ∀ ox, ops[i]? = some ox → (∀ d, ob.dst = some d → d ∉ ox.looksAt ops) ∧ (∀ d, ob.dst = some d → ox.dst ≠ some d) ∧ (∀ d, ox.dst = some d → d ∉ ob.looksAt ops) := fun ox hox => Oper.apart_spec (hap (i, ki) (by simp) ox hox)
    cases ki with
    | quiet =>
      obtain ⟨ox, v, h1, h2, h4⟩ := h
      obtain ⟨c1, c2, c3⟩ := core ox h1
      obtain ⟨ob', v', e1, e2, e4⟩ := ih _ _ _ hapr h4
      obtain rfl := Option.some.inj (hob.symm.trans e1)
      refine ⟨_, v', hob, (QOk_put (hsel b _ · · hob) c3).1 e2, ox, v, h1, (QOk_put (hsel i ox · · h1) c1).2 h2, ?_⟩
      rw [Act.put_comm a _ _ c2]
      exact e4
    | lit =>
      obtain ⟨ox, h1, h2, h3, h4⟩ := h
      obtain ⟨c1, c2, c3⟩ := core ox h1
      obtain ⟨ob', v', e1, e2, e4⟩ := ih _ _ _ hapr (h4 0)
      obtain rfl := Option.some.inj (hob.symm.trans e1)
      have e2' := (QOk_put (hsel b _ · · hob) c3).1 e2
      refine ⟨_, v', hob, e2', ox, h1, by rw [wanted_put ox a _ _ c1]; exact h2, fun w => by rw [execOp_put (ops := ops) ox (hsel i ox · · h1) a _ _ c1]; exact h3 w, fun g => ?_⟩
      obtain ⟨ob'', v'', f1, f2, f4⟩ := ih _ _ _ hapr (h4 g)
      obtain rfl := Option.some.inj (hob.symm.trans f1)
      obtain rfl := QOk_one hCi e2' ((QOk_put (hsel b _ · · hob) c3).1 f2)
      rw [Act.put_comm a _ _ c2]
      exact f4
    | chain =>
      obtain ⟨ox, h1, h2, ι, y0, val, G, I, h4, h6, h5⟩ := h
      obtain ⟨c1, c2, c3⟩ := core ox h1
      obtain ⟨ob', v', e1, e2, e4⟩ := ih _ _ _ hapr (h5 y0)
      obtain rfl := Option.some.inj (hob.symm.trans e1)
      have hm : hasLit (l1.append ((b, LK.quiet) :: l2)) = hasLit (l1 ++ l2) := hasLit_mid (x := (b, LK.quiet)) (by simp) l1 l2
      rw [hm] at h4 h6
      have e2' := (QOk_put (hsel b _ · · hob) c3).1 e2
      refine ⟨_, v', hob, e2', ox, h1, by rw [wanted_put ox a _ _ c1]; exact h2, ι, y0, val, G, I, fun w hF hC => (LoOp_put (hsel i ox · · h1) _ _ c1).2 (h4 w hF hC), h6, fun y => ?_⟩
      obtain ⟨ob'', v'', f1, f2, f4⟩ := ih _ _ _ hapr (h5 y)
      obtain rfl := Option.some.inj (hob.symm.trans f1)
      obtain rfl := QOk_one hCi e2' ((QOk_put (hsel b _ · · hob) c3).1 f2)
      rw [Act.put_comm a _ _ c2]
      exact f4
theorem wpTz_movec (hsel : ∀ (j : Nat) (o : Oper) cs b, ops[j]? = some o → o.op ≠ .select cs b) {b : Nat} {ob : Oper} (hob : ops[b]? = some ob) (l2 : List (Nat × LK)) :
    ∀ (l1 : List (Nat × LK)) (iv : List (Nat × Nat)) (a : Act) (F : World → Prop), (∀ x ∈ l1, x.2 = .quiet) → (∀ x ∈ l1, ∀ ox, ops[x.1]? = some ox → ob.apart ops ox = true) → wpTz P ops B lo lv C Z (l1 ++ (b, .chain) :: l2) iv a F → wpTz P ops B lo lv C Z ((b, .chain) :: (l1 ++ l2)) iv a F := by
  intro l1
  induction l1 with
  | nil => intro iv a F _ _ h; exact h
  | cons x l1 ih =>
    intro iv a F hq hap h
    obtain ⟨i, ki⟩ := x
    have := hq (i, ki) (by simp)
    simp only at this
    subst this
    have hapr : ∀ y ∈ l1, ∀ oy, ops[y.1]? = some oy → ob.apart ops oy = true := fun y hy => hap y (by simp [hy])
    have hqr : ∀ y ∈ l1, y.2 = LK.quiet := fun y hy => hq y (by simp [hy])
    obtain ⟨ox, v, h1, h2, h4⟩ := h
    obtain ⟨c1, c2, c3⟩ := Oper.apart_spec (hap (i, .quiet) (by simp) ox h1)
    obtain ⟨ob', e1, e2, ι, y0, val, G, I, e3, e6, e4⟩ := ih _ _ _ hqr hapr h4
    obtain rfl := Option.some.inj (hob.symm.trans e1)
    have hq3 : hasLit ((i, LK.quiet) :: l1 ++ l2) = hasLit (l1 ++ l2) := hasLit_mid (x := (i, LK.quiet)) (by simp) [] (l1 ++ l2)
    rw [← hq3] at e3 e6
    refine ⟨_, hob, by rw [← e2]; exact (wanted_put _ a ox.dst v c3).symm, ι, y0, val, G, I, fun w hF hC => (LoOp_put (hsel b _ · · hob) _ _ c3).1 (e3 w hF hC), e6, fun y => ?_⟩
    refine ⟨ox, v, h1, (QOk_put (hsel i ox · · h1) c1).2 h2, ?_⟩
    rw [Act.put_comm a _ _ c2]
    exact e4 y
theorem wpTz_movel (hsel : ∀ (j : Nat) (o : Oper) cs b, ops[j]? = some o → o.op ≠ .select cs b) {b : Nat} {ob : Oper} (hob : ops[b]? = some ob) (l2 : List (Nat × LK)) :
    ∀ (l1 : List (Nat × LK)) (iv : List (Nat × Nat)) (a : Act) (F : World → Prop), (∀ x ∈ l1, ∀ ox, ops[x.1]? = some ox → ob.apart ops ox = true) → wpTz P ops B lo lv C Z (l1 ++ (b, .lit) :: l2) iv a F → wpTz P ops B lo lv C Z ((b, .lit) :: (l1 ++ l2)) iv a F := by
  intro l1
  induction l1 with
  | nil => intro iv a F _ h; exact h
  | cons x l1 ih =>
    intro iv a F hap h
    obtain ⟨i, ki⟩ := x
    have hapr : ∀ y ∈ l1, ∀ oy, ops[y.1]? = some oy → ob.apart ops oy = true := fun y hy => hap y (by simp [hy])
    have core : ∀ ox, ops[i]? = some ox → (∀ d, ob.dst = some d → d ∉ ox.looksAt ops) ∧ (∀ d, ob.dst = some d → ox.dst ≠ some d) ∧ (∀ d, ox.dst = some d → d ∉ ob.looksAt ops) := fun ox hox => Oper.apart_spec (hap (i, ki) (by simp) ox hox)
    cases ki with
    | quiet =>
      obtain ⟨ox, v, h1, h2, h4⟩ := h
      obtain ⟨c1, c2, c3⟩ := core ox h1
      obtain ⟨ob', e1, e2, e3, e4⟩ := ih _ _ _ hapr h4
      obtain rfl := Option.some.inj (hob.symm.trans e1)
      refine ⟨_, hob, by rw [← e2]; exact (wanted_put _ a ox.dst _ c3).symm, fun w => by rw [← execOp_put (ops := ops) _ (hsel b _ · · hob) a ox.dst v c3]; exact e3 w, fun g => ?_⟩
      refine ⟨ox, v, h1, (QOk_put (hsel i ox · · h1) c1).2 h2, ?_⟩
      rw [Act.put_comm a _ _ c2]
      exact e4 g
    | lit =>
      obtain ⟨ox, h1, h2, h3, h4⟩ := h
      obtain ⟨c1, c2, c3⟩ := core ox h1
      obtain ⟨ob', e1, e2, e3, e4⟩ := ih _ _ _ hapr (h4 0)
      obtain rfl := Option.some.inj (hob.symm.trans e1)
      refine ⟨_, hob, by rw [← e2]; exact (wanted_put _ a ox.dst _ c3).symm, fun w => by rw [← execOp_put (ops := ops) _ (hsel b _ · · hob) a ox.dst (lv i 0) c3]; exact e3 w, fun g => ?_⟩
      refine ⟨ox, h1, by rw [wanted_put ox a _ _ c1]; exact h2, fun w => by rw [execOp_put (ops := ops) ox (hsel i ox · · h1) a _ _ c1]; exact h3 w, fun g2 => ?_⟩
      obtain ⟨ob'', f1, f2, f3, f4⟩ := ih _ _ _ hapr (h4 g2)
      obtain rfl := Option.some.inj (hob.symm.trans f1)
      rw [Act.put_comm a _ _ c2]
      have hfun : (fun W : World => (F W ∧ B ≤ g ∧ W.heap[g]? = some (lo b) ∧ ∀ z ∈ iv, g < z.1 ∨ z.2 ≤ g) ∧ B ≤ g2 ∧ W.heap[g2]? = some (lo i) ∧ ∀ z ∈ (g, g + 1) :: iv, g2 < z.1 ∨ z.2 ≤ g2) = (fun W : World => (F W ∧ B ≤ g2 ∧ W.heap[g2]? = some (lo i) ∧ ∀ z ∈ iv, g2 < z.1 ∨ z.2 ≤ g2) ∧ B ≤ g ∧ W.heap[g]? = some (lo b) ∧ ∀ z ∈ (g2, g2 + 1) :: iv, g < z.1 ∨ z.2 ≤ g) := by
        funext W
        apply propext
        simp only [List.forall_mem_cons]
        constructor <;> (rintro ⟨⟨x1, x2, x3, x4⟩, y1, y2, y3, y4⟩; exact ⟨⟨x1, y1, y2, y4⟩, x2, x3, by omega, x4⟩)
      rw [hfun]
      exact wpTz_perm _ _ _ _ _ (mem_swap _ _ _) (f4 g)
    | chain =>
      obtain ⟨ox, h1, h2, ι, y0, val, G, I, h4, h6, h5⟩ := h
      obtain ⟨c1, c2, c3⟩ := core ox h1
      obtain ⟨ob', e1, e2, e3, e4⟩ := ih _ _ _ hapr (h5 y0)
      obtain rfl := Option.some.inj (hob.symm.trans e1)
      have hl : hasLit (l1 ++ (b, LK.lit) :: l2) = true := by simp [hasLit]
      refine ⟨_, hob, by rw [← e2]; exact (wanted_put _ a ox.dst _ c3).symm, fun w => by rw [← execOp_put (ops := ops) _ (hsel b _ · · hob) a ox.dst (val y0) c3]; exact e3 w, fun g => ?_⟩
      have hstay : ∀ w w' : World, Below w.heap.size w w' → w.heap[g]? = some (lo b) → w'.heap[g]? = some (lo b) := fun w w' hb e => (hb.block g (Array.getElem?_eq_some_iff.1 e).1).trans e
      refine ⟨ox, h1, by rw [wanted_put ox a _ _ c1]; exact h2, ι, y0, val, fun y W => G y W ∧ B ≤ g ∧ W.heap[g]? = some (lo b) ∧ ∀ z ∈ I y :: iv, g < z.1 ∨ z.2 ≤ g, I, fun w hF hC => (LoOp_put (hsel i ox · · h1) _ _ c1).2 (LoOp_mono (h4 w hF.1 hC) (fun v w' ⟨y, k1, k2, k3, k4⟩ => ⟨y, k1, k2, ⟨k3, hF.2.1, ((k4 hl).1.2 g hF.2.1 (Array.getElem?_eq_some_iff.1 hF.2.2.1).1).trans hF.2.2.1, fun z hz => by
        rcases List.mem_cons.1 hz with rfl | hz
        · exact .inl (Nat.lt_of_lt_of_le (Array.getElem?_eq_some_iff.1 hF.2.2.1).1 (k4 hl).2.1)
        · exact hF.2.2.2 z hz⟩, fun _ => k4 hl⟩)), fun _ y w w' hG hb => ⟨h6 hl y w w' hG.1 hb, hG.2.1, hstay w w' hb hG.2.2.1, hG.2.2.2⟩, fun y => ?_⟩
      obtain ⟨ob'', f1, f2, f3, f4⟩ := ih _ _ _ hapr (h5 y)
      obtain rfl := Option.some.inj (hob.symm.trans f1)
      rw [Act.put_comm a _ _ c2]
      exact wpTz_perm _ _ _ _ _ (mem_swap _ _ _) (f4 g)
theorem tz_core {Q : Exit → Act → World → Prop} {m : Nat} (L0 : List (Nat × LK)) (hend : ∀ (fuel : Nat) (l : List (Nat × LK)) (listed : Array Bool) (iv : List (Nat × Nat)) (a : Act) (w : World) (F : World → Prop), l.length ≤ fuel → LoInv ops m l listed → (∀ x ∈ l, x ∈ L0) → m ∈ Region.ready .any ops listed → F w → C w → wpTz P ops B lo lv C Z l iv a F → wpOp P ops Q m (wpAny P .any ops Q fuel (listed.setIfInBounds m true)) a w)
  (hns : Region.noSelect ops = true) (hsz : ops.size = m + 1) (hback : backLo ops = true) :
  ∀ (fuel : Nat) (l : List (Nat × LK)) (listed : Array Bool) (iv : List (Nat × Nat)) (a : Act) (w : World) (F : World → Prop), l.length + 1 ≤ fuel → LoInv ops m l listed → (∀ x ∈ l, x ∈ L0) → goodTx ops [] l = true → pairsTx ops l = true → (hasLit l = true → (∀ w o, C w → C (w.alloc o)) ∧ (∀ w, C w → B ≤ w.heap.size)) → (hasLit l = true → ∀ w w', F w → Below w.heap.size w w' → F w') → (hasLit l = true → ∀ z ∈ iv, z.2 ≤ w.heap.size) → F w → C w → wpTz P ops B lo lv C Z l iv a F → wpAny P .any ops Q fuel listed a w := by
 intro fuel
 induction fuel with
 | zero => intro l listed iv a w F h; omega
 | succ fuel ih =>
  intro l listed iv a w F hf hI hsub hg hp hLC hLF hIv hF hC hw
  have hsel := Region.noSelect_spec hns
  refine ⟨fun hr => ?_, fun i hi => ?_⟩
  ·exfalso
   cases l with
   | nil =>
    have hm : m ∈ Region.ready .any ops listed := by
     have hms : m < ops.size := by omega
     refine mem_ready.2 ⟨hI.last, ops[m], Array.getElem?_eq_getElem hms, fun e he hb => ?_⟩
     have hlt := back_at hback (Array.getElem?_eq_getElem hms) e he hb
     have h1 := (hI.mem e.on hlt)
     rcases Bool.eq_false_or_eq_true (listed.getD e.on false) with h2 | h2
     ·exact h2
     ·exfalso
      have := h1.1 ((getD_two (by rw [hI.size]; omega)).2 (by simp [h2]))
      simp at this
    rw [hr] at hm
    cases hm
   | cons x l =>
    obtain ⟨j, k⟩ := x
    have hjm : j < m := hI.lt (j, k) (by simp)
    have hj : j ∈ Region.ready .any ops listed := by
     have hjs : j < ops.size := by omega
     refine mem_ready.2 ⟨(hI.mem j hjm).2 (by simp), ops[j], Array.getElem?_eq_getElem hjs, fun e he hb => ?_⟩
     have hlt := back_at hback (Array.getElem?_eq_getElem hjs) e he hb
     have h1 := (hI.mem e.on (by omega))
     rcases Bool.eq_false_or_eq_true (listed.getD e.on false) with h2 | h2
     ·exact h2
     ·exfalso
      have h3 := h1.1 ((getD_two (by rw [hI.size]; omega)).2 (by simp [h2]))
      obtain ⟨y, hy, e2⟩ := List.mem_map.1 h3
      rcases List.mem_cons.1 hy with rfl | hy
      ·simp only at e2; omega
      ·have := (List.pairwise_cons.1 hI.sorted).1 y hy
       simp only at this e2
       omega
    rw [hr] at hj
    cases hj
  ·obtain ⟨h0, o, ho, hall⟩ := mem_ready.1 hi
   have hil : ∀ y, listed.getD y false = true → y < m → y ∉ l.map (·.1) := fun y hy hym hmem => by
    have h1 := (hI.mem y hym).2 hmem
    have h2 : y < listed.size := by rw [hI.size]; omega
    rw [getD_two h2] at h1
    exact h1 hy
   have his : i < ops.size := (Array.getElem?_eq_some_iff.1 ho).1
   rcases Nat.lt_or_ge i m with him | him
   ·-- one of l
    have hmem := (hI.mem i him).1 h0
    obtain ⟨x, hx, ex⟩ := List.mem_map.1 hmem
    obtain ⟨l1, l2, rfl⟩ := List.append_of_mem hx
    obtain ⟨i', k⟩ := x
    simp only at ex
    subst ex
    have hanc : ∀ y ∈ anc ops 3 i', listed.getD y false = true := anc_listed hI.down 3 i' (fun o' ho' e he hb => by obtain rfl := Option.some.inj (ho.symm.trans ho'); exact hall e he hb)
    have hI2 := hI.next hi
    have hsub2 : ∀ x ∈ l1 ++ l2, x ∈ L0 := fun x hx => hsub x (by
     rcases List.mem_append.1 hx with h | h
     ·exact List.mem_append_left _ h
     ·exact List.mem_append_right _ (List.mem_cons_of_mem _ h))
    have hp2 := pairsTx_drop _ l1 hp
    have hlen : (l1 ++ l2).length + 1 ≤ fuel := by simp only [List.length_append, List.length_cons] at hf ⊢; omega
    cases k with
    | chain =>
     have hl1 : ∀ x ∈ l1, x.2 = .quiet := by
      intro x hx
      by_cases hqx : x.2 = .quiet
      ·exact hqx
      ·exfalso
       obtain ⟨y, hy, ha⟩ := goodTx_waits l1 l2 [] (.inr ⟨_, hx, hqx⟩) hg
       rcases hy with hy | hy
       ·simp at hy
       have hmemy : y ∈ (l1 ++ (i', LK.chain) :: l2).map (·.1) := by
        rw [List.map_append]
        exact List.mem_append_left _ hy
       obtain ⟨z, hz, ez⟩ := List.mem_map.1 hmemy
       exact hil y (hanc y ha) (by have := hI.lt z hz; omega) hmemy
     have hap : ∀ x ∈ l1, ∀ ox, ops[x.1]? = some ox → o.apart ops ox = true := fun x hx ox hox => by
      have h1 := pairsTx_at l2 l1 hp x hx
      unfold pairTx at h1
      rw [ho, hox, hl1 x hx] at h1
      simp only [Bool.or_eq_true, Bool.and_eq_true, decide_eq_true_eq] at h1
      rcases h1 with (h1 | h1) | h1
      ·cases h1.2
      ·exfalso
       exact hil x.1 (hanc x.1 (by simpa using h1)) (hI.lt x (List.mem_append_left _ hx)) (List.mem_map_of_mem (List.mem_append_left _ hx))
      ·exact h1
     obtain ⟨o', e1, e2, ι, y0, val, G, I, h4, h6, h5⟩ := wpTz_movec hsel ho l2 l1 iv a F hl1 hap hw
     obtain rfl := Option.some.inj (ho.symm.trans e1)
     unfold wpOp
     simp only [ho, e2, if_true]
     refine .inl ((h4 w hF hC).wp (fun v w' hpost => ?_))
     obtain ⟨y, rfl, hS, hG, hbb⟩ := hpost
     exact ih _ _ (I y :: iv) _ w' _ hlen hI2 hsub2 (goodTx_dropc l2 l1 hl1 hg) hp2 (fun h => hLC (hasLit_sub l1 l2 h)) (fun h => h6 h y) (fun h z hz => by
      rcases List.mem_cons.1 hz with rfl | hz
      ·exact (hbb h).2.2
      ·exact Nat.le_trans (hIv (hasLit_sub l1 l2 h) z hz) (hbb h).1.1) hG hS (h5 y)
    | quiet =>
     have hap : ∀ x ∈ l1, ∀ ox, ops[x.1]? = some ox → o.apart ops ox = true := fun x hx ox hox => by
      have h1 := pairsTx_at l2 l1 hp x hx
      unfold pairTx at h1
      rw [ho, hox] at h1
      simp only [Bool.or_eq_true, Bool.and_eq_true, decide_eq_true_eq] at h1
      rcases h1 with (h1 | h1) | h1
      ·cases h1.1
      ·exfalso
       exact hil x.1 (hanc x.1 (by simpa using h1)) (hI.lt x (List.mem_append_left _ hx)) (List.mem_map_of_mem (List.mem_append_left _ hx))
      ·exact h1
     obtain ⟨o', v', e1, e2, e4⟩ := wpTz_move ⟨w, hC⟩ hsel ho l2 l1 iv a F hap hw
     obtain rfl := Option.some.inj (ho.symm.trans e1)
     unfold wpOp
     rcases e2 with ⟨e2, e3⟩ | ⟨e2, e3⟩
     ·simp only [ho, e2, if_true]
      refine .inl ?_
      unfold Oper.wp
      rw [e3 w hC]
      exact ih _ _ iv _ w F hlen hI2 hsub2 (goodTx_drop (by decide) l2 l1 [] hg) hp2 (fun h => hLC (hasLit_sub l1 l2 h)) (fun h => hLF (hasLit_sub l1 l2 h)) (fun h => hIv (hasLit_sub l1 l2 h)) hF hC e4
     ·simp only [ho, e2, Bool.false_eq_true, if_false]
      rw [← e3]
      exact ih _ _ iv _ w F hlen hI2 hsub2 (goodTx_drop (by decide) l2 l1 [] hg) hp2 (fun h => hLC (hasLit_sub l1 l2 h)) (fun h => hLF (hasLit_sub l1 l2 h)) (fun h => hIv (hasLit_sub l1 l2 h)) hF hC e4
    | lit =>
     have hap : ∀ x ∈ l1, ∀ ox, ops[x.1]? = some ox → o.apart ops ox = true := fun x hx ox hox => by
      have h1 := pairsTx_at l2 l1 hp x hx
      unfold pairTx at h1
      rw [ho, hox] at h1
      simp only [Bool.or_eq_true, Bool.and_eq_true, decide_eq_true_eq] at h1
      rcases h1 with (h1 | h1) | h1
      ·cases h1.1
      ·exfalso
       exact hil x.1 (hanc x.1 (by simpa using h1)) (hI.lt x (List.mem_append_left _ hx)) (List.mem_map_of_mem (List.mem_append_left _ hx))
      ·exact h1
     have hl : hasLit (l1 ++ (i', LK.lit) :: l2) = true := by simp [hasLit]
     obtain ⟨hCA, hCB⟩ := hLC hl
     obtain ⟨o', e1, e2, e3, e4⟩ := wpTz_movel hsel ho l2 l1 iv a F hap hw
     obtain rfl := Option.some.inj (ho.symm.trans e1)
     unfold wpOp
     simp only [ho, e2, if_true]
     refine .inl ?_
     unfold Oper.wp
     rw [e3 w]
     have hbw : Below w.heap.size w (w.alloc (lo i')) := bw_alloc _ (bw_refl w)
     refine ih _ _ ((w.heap.size, w.heap.size + 1) :: iv) _ (w.alloc (lo i')) _ hlen hI2 hsub2 (goodTx_drop (by decide) l2 l1 [] hg) hp2 (fun h => hLC (hasLit_sub l1 l2 h)) (fun _ w1 w2 hF1 hb => ⟨hLF hl w1 w2 hF1.1 hb, hF1.2.1, (hb.block _ (Array.getElem?_eq_some_iff.1 hF1.2.2.1).1).trans hF1.2.2.1, hF1.2.2.2⟩) (fun _ z hz => by
      rcases List.mem_cons.1 hz with rfl | hz
      ·simp only [szs]; omega
      ·exact Nat.le_trans (hIv hl z hz) (bw_size hbw)) ⟨hLF hl w _ hF hbw, hCB w hC, ?_, fun z hz => .inr (hIv hl z hz)⟩ (hCA w _ hC) (e4 w.heap.size)
     show (w.heap.push (lo i'))[w.heap.size]? = some (lo i')
     exact Array.getElem?_push_size ..
   ·obtain rfl : i = m := by omega
    exact hend fuel l listed iv a w F (by omega) hI hsub hi hF hC hw
theorem lo_left {m : Nat} {l : List (Nat × LK)} {listed : Array Bool} (hsz : ops.size = m + 1) (hI : LoInv ops m l listed) (hi : m ∈ Region.ready .any ops listed) (x : Nat × LK) (hx : x ∈ l) : ¬ x.1 ∈ anc ops 4 m := by
  intro h1
  obtain ⟨h0, o, ho, hall⟩ := mem_ready.1 hi
  have hlt := hI.lt x hx
  have h2 := anc_listed hI.down 4 _ (fun o' ho' e he hb => by obtain rfl := Option.some.inj (ho.symm.trans ho'); exact hall e he hb) x.1 h1
  have h3 := (hI.mem x.1 hlt).2 (List.mem_map_of_mem hx)
  have h4 : x.1 < listed.size := by rw [hI.size]; omega
  rw [getD_two h4] at h3
  exact h3 h2
theorem lo_end {Q : Exit → Act → World → Prop} {m : Nat} {listed : Array Bool} {l : List (Nat × LK)} (hsz : ops.size = m + 1) (hI : LoInv ops m l listed) (L : Array Bool) (hL : L.size = listed.size) (hm : L.getD m false = true) (hLd : ∀ j, j < m → j ∈ l.map (·.1) → L.getD j false = true) (hLo : ∀ j, listed.getD j false = true → L.getD j false = true) {a : Act} {w : World} (h : Q .normal a w) (fuel : Nat) : wpAny P .any ops Q fuel L a w := by
  refine lo_done ?_ h fuel
  rw [List.eq_nil_iff_forall_not_mem]
  intro j hj
  obtain ⟨h1, oj, hoj, _⟩ := mem_ready.1 hj
  have hjs : j < ops.size := (Array.getElem?_eq_some_iff.1 hoj).1
  have hjL : j < L.size := by rw [hL, hI.size]; exact hjs
  rw [getD_two hjL] at h1
  apply h1
  rcases Nat.lt_or_ge j m with h2 | h2
  · by_cases h3 : j ∈ l.map (·.1)
    · exact hLd j h2 h3
    · have h4 : j < listed.size := by omega
      have h5 : ¬ listed.getD j true = false := fun e => h3 ((hI.mem j h2).1 e)
      exact hLo j (by
        rw [getD_two h4, Classical.not_not] at h5
        exact h5)
  · obtain rfl : j = m := by omega
    exact hm
theorem tz_sound {Q : Exit → Act → World → Prop} {m : Nat} (hfin : ∀ a F, Z a F → ∀ w, F w → C w → ∃ om, ops[m]? = some om ∧ Region.wanted om (yielded ops a.tmps) = true ∧ Oper.wp P om a w (fun a' w' => Q .normal a' w') Q)
    (hns : Region.noSelect ops = true) (hsz : ops.size = m + 1) (hlast : lastA ops m = true) (hback : backLo ops = true) :
    ∀ (fuel : Nat) (l : List (Nat × LK)) (listed : Array Bool) (iv : List (Nat × Nat)) (a : Act) (w : World) (F : World → Prop), l.length + 1 ≤ fuel → LoInv ops m l listed → goodTx ops [] l = true → pairsTx ops l = true → (hasLit l = true → (∀ w o, C w → C (w.alloc o)) ∧ (∀ w, C w → B ≤ w.heap.size)) → (hasLit l = true → ∀ w w', F w → Below w.heap.size w w' → F w') → (hasLit l = true → ∀ z ∈ iv, z.2 ≤ w.heap.size) → F w → C w → wpTz P ops B lo lv C Z l iv a F → wpAny P .any ops Q fuel listed a w := by
  intro fuel l listed iv a w F hf hI
  refine tz_core l (fun fuel l listed iv a w F hf hI _ hi hF hC hw => ?_) hns hsz hback fuel l listed iv a w F hf hI (fun x hx => hx)
  have hl : l = [] := by
    cases l with
    | nil => rfl
    | cons x l =>
      exfalso
      have hx := hI.lt x (by simp)
      unfold lastA at hlast
      simp only [List.all_eq_true, List.mem_range] at hlast
      exact lo_left hsz hI hi x (by simp) (by simpa using hlast x.1 hx)
  subst hl
  obtain ⟨om, e1, e2, e3⟩ := hfin a F hw w hF hC
  have hms : m < listed.size := by rw [hI.size]; omega
  unfold wpOp
  simp only [e1, e2, if_true]
  exact .inl (Oper.wp_mono (fun a' w' hq => lo_end hsz hI _ (by simp) (by simp [hms]) (fun j _ hj => by simp at hj) (fun j hj => by
    by_cases e : m = j
    · subst e; simp [hms]
    · rw [getD_set_ne false e]; exact hj) hq fuel) e3)
theorem wp_region_tz {Q : Exit → Act → World → Prop} {id : Nat} {a : Act} {w : World} (B : Nat) (lo : Nat → Obj) (lv : Nat → Nat → Value) (C : World → Prop) (m : Nat) (l : List (Nat × LK)) (hm : P.follows .mixedOrders = true)
    (hns : Region.noSelect ops = true) (hsz : ops.size = m + 1) (hl : l.map (·.1) = List.range m) (hlast : lastA ops m = true) (hback : backLo ops = true) (hg : goodTx ops [] l = true) (hp : pairsTx ops l = true) (hC : C w.drew) (hLC : (∀ w o, C w → C (w.alloc o)) ∧ (∀ w, C w → B ≤ w.heap.size)) (F0 : World → Prop) (hF0 : F0 w.drew) (hLF : hasLit l = true → ∀ w w', F0 w → Below w.heap.size w w' → F0 w')
    (h : wpTz P ops B lo lv C (lastZ P ops C Q m) l [] a F0) : (Code.region id ops true).wp P Q a w := by
  refine wp_region_any hm ?_
  have hlen : l.length = m := by have := congrArg List.length hl; simpa using this
  refine tz_sound (P := P) (B := B) (lo := lo) (lv := lv) (C := C) (Z := lastZ P ops C Q m) (m := m) (fun a F hz w hF hc => hz w hF hc) hns hsz hlast hback ops.size l _ [] a _ F0 (by omega) ⟨by simp, fun i hi => ?_, fun x hx => ?_, ?_, fun j oj hoj hj => ?_, ?_⟩ hg hp (fun _ => hLC) hLF (fun _ z hz => by simp at hz) hF0 hC h
  · have hi2 : i < ops.size := by omega
    rw [hl]
    simp [hi2, hi]
  · have : x.1 ∈ l.map (·.1) := List.mem_map_of_mem hx
    rw [hl] at this
    simpa using this
  · have : m < ops.size := by omega
    simp [this]
  · exfalso
    by_cases h1 : j < ops.size
    · simp [h1] at hj
    · simp [h1] at hj
  · have h1 : (l.map (·.1)).Pairwise (· < ·) := by rw [hl]; exact List.pairwise_lt_range
    rwa [List.pairwise_map] at h1
end
section
variable {P : Program} {ops : Array Oper} {B : Nat} {lo : Nat → Obj} {lv : Nat → Nat → Value} {C : World → Prop} {Z : Act → (World → Prop) → Prop} {iv : List (Nat × Nat)}
end
section
variable {P : Program} {ops : Array Oper} {B : Nat} {lo : Nat → Obj} {lv : Nat → Nat → Value} {C : World → Prop} {Z : Act → (World → Prop) → Prop} {iv : List (Nat × Nat)}
theorem wpTz_c {i : Nat} {rest : List (Nat × LK)} {a : Act} {F : World → Prop} {o : Oper} (d : Option Tmp) (ho : ops[i]? = some o) (hd : o.dst = d) (hw : Region.wanted o (yielded ops a.tmps) = true) {ι : Type} (y0 : ι) (val : ι → Value) (G : ι → World → Prop) (hr : ∀ w, F w → C w → LoOp P o a w (fun v w' => ∃ y, v = val y ∧ C w' ∧ G y w')) (h : ∀ y, wpTz P ops B lo lv C Z rest ((0, 0) :: iv) (a.put d (val y)) (G y)) (hnl : hasLit rest = false := by rfl) : wpTz P ops B lo lv C Z ((i, .chain) :: rest) iv a F :=
  have hn : hasLit rest = true → False := fun e => by rw [hnl] at e; cases e
  ⟨o, ho, hw, ι, y0, val, G, fun _ => (0, 0), fun w hF hC => LoOp_mono (hr w hF hC) (fun v w' ⟨y, h1, h2, h3⟩ => ⟨y, h1, h2, h3, fun e => (hn e).elim⟩), fun e => (hn e).elim, hd ▸ h⟩
end
end Go.Proofs.YtaihmgbflhbebaaGreat
namespace Go.Proofs.YtaihmgbflhbebaaGreat
open Go.RowKit Go.Proofs.YtaihmgbflhbebaaGreatW.PrintWords
open NoC
theorem OB.upd {w w1 : World} {lo hi : Nat} {v : Value} {l : List (List Flit)} {vs : List Value} (h : OB w lo hi v l vs) (k : Nat) (hk : k < l.length) (hg : w.grownBy w1 (vr vs k).ownBlock) {y : List Flit} (hy : RU kF 80 w1 lo hi (vr vs k) y) : OB w1 lo hi v (l.set k y) vs := by
  have hl := h.len
  obtain ⟨inner, hin⟩ := Kd.R_own (h.row k hk)
  refine ⟨?_, h.top, fun i hi' => ?_, fun i j hij hj => h.apart i j hij (by rwa [List.length_set] at hj)⟩
  · rw [List.length_set]
    exact h.own.kept hg (own_type_ne h.own hin (by decide))
  · rw [List.length_set] at hi'
    rw [set_getB hk i hi']
    by_cases e : k = i
    · subst e
      rw [if_pos rfl]
      exact hy
    · rw [if_neg e]
      obtain ⟨h0, inner', ho, hr⟩ := h.row i hi'
      exact ⟨h0, inner', ho.kept hg (h.apart' (fun h => e h.symm) hi' hk), hr⟩
def totTo (l : List (List Flit)) : Nat → Nat
  | 0 => 0
  | i + 1 => totTo l i + (rl l i).length
theorem totTo_le {l : List (List Flit)} (h : ∀ x ∈ l, x.length ≤ 2097152) : ∀ i, i ≤ l.length → totTo l i ≤ 2097152 * i := by
  intro i
  induction i with
  | zero => intro _; simp [totTo]
  | succ i ih =>
    intro hi
    have h1 := ih (by omega)
    have h2 := h _ (rl_mem (show i < l.length by omega))
    simp only [totTo]
    omega
structure NetI (w : World) (a b : Nat → Nat) (n : Net) (q : NA) (v4 v7 v8 : List Value) : Prop where
  br : RU (Kd.int .i64) 3 w (a 0) (b 0) (.slice q.a1 n.mesh.br.length q.c1) n.mesh.br
  pa : RU (Kd.int .i64) 3 w (a 1) (b 1) (.slice q.a2 n.pa.length q.c2) n.pa
  pb : RU (Kd.int .i64) 3 w (a 1) (b 1) (.slice q.a3 n.pb.length q.c3) n.pb
  ap : Apart (.slice q.a3 n.pb.length q.c3) (.slice q.a2 n.pa.length q.c2)
  bufs : OB w (a 2) (b 2) (.slice q.a4 n.bufs.length q.c4) n.bufs v4
  owners : RU (Kd.int .i64) 3 w (a 3) (b 3) (.slice q.a5 n.owners.length q.c5) n.owners
  turns : RU (Kd.int .i64) 3 w (a 4) (b 4) (.slice q.a6 n.turns.length q.c6) n.turns
  srcs : OB w (a 5) (b 5) (.slice q.a7 n.srcs.length q.c7) n.srcs v7
  arrs : OB w (a 6) (b 6) (.slice q.a8 n.arrs.length q.c8) n.arrs v8
theorem NetI.reads {w : World} {a b : Nat → Nat} {n : Net} {q : NA} {v4 v7 v8 : List Value} {w0 : World} {q0 : NA} {e0 : Nat} (h : NetI w a b n q v4 v7 v8) (k : NetR e0 w0 n q0) : NetR 80 w n q :=
  ⟨h.br.reads.2.2, h.pa.reads.2.2, h.pb.reads.2.2, h.bufs.reads.2.2, h.owners.reads.2.2, h.turns.reads.2.2, h.srcs.reads.2.2, h.arrs.reads.2.2, k.h1, k.h2, k.h3, k.h4, k.h5, k.h6, k.h7, k.h8, k.h9, k.h10, k.h11⟩
theorem NetI.below {w w1 : World} {a b : Nat → Nat} {n : Net} {q : NA} {v4 v7 v8 : List Value} (h : NetI w a b n q v4 v7 v8) (hb : Below w.heap.size w w1) : NetI w1 a b n q v4 v7 v8 :=
  ⟨h.br.below hb, h.pa.below hb, h.pb.below hb, h.ap, h.bufs.below hb, h.owners.below hb, h.turns.below hb, h.srcs.below hb, h.arrs.below hb⟩
def RI (w : World) (lo : Nat) (A : Option Addr) (c : Nat) (xs : List Int) : Prop := xs = [] ∨ Kd.R (Kd.int .i64) 3 w lo (fun _ => True) (.slice A xs.length c) xs
def Own1 (r : Option Nat) (A : Option Addr) (c : Nat) (xs : List Int) : Prop := r = none ∨ (xs ≠ [] ∧ r = (Value.slice A xs.length c).ownBlock)
section
variable {w w1 : World} {lo : Nat} {A B : Option Addr} {c d : Nat} {xs ys : List Int}
theorem C_nil (w : World) (A : Option Addr) : Kd.C (Kd.int .i64) w A 0 [] := ⟨rfl, by simp, fun h => absurd h (by simp)⟩
theorem RI.reads (h : RI w lo A c xs) : Kd.C (Kd.int .i64) w A xs.length xs := by
  rcases h with h | h
  · subst h; exact C_nil w A
  · exact (Kd.R_rowX h).2.2
theorem RI.below (h : RI w lo A c xs) (hb : Below w.heap.size w w1) : RI w1 lo A c xs := h.imp id (fun h => Kd.R_below h hb)
theorem RI.lower {lo' : Nat} (h : RI w lo A c xs) (hl : lo' ≤ lo) : RI w lo' A c xs := h.imp id (fun h => Kd.R_lower h hl)
theorem R_chg {α : Type} {k : Kd α} {e a b : Nat} {v : Value} {l : List α} (h : k.R e w lo (fun _ => True) v l) (hc : Chg a b w w1) (hh : b ≤ lo) : k.R e w1 lo (fun _ => True) v l :=
  RU.row (RU.chg (RU.of h (Nat.le_refl _) (Nat.le_refl _)) hc (.inr hh))
theorem RI.chg {a b : Nat} (h : RI w lo A c xs) (hc : Chg a b w w1) (hh : b ≤ lo) : RI w1 lo A c xs := h.imp id (fun h => R_chg h hc hh)
theorem RI.grownI {r : Option Nat} (h : RI w lo A c xs) (hg : w.grownBy w1 r) (hr : Own1 r B d ys) (ha : Ap0 (.slice A xs.length c) (.slice B ys.length d)) : RI w1 lo A c xs := by
  rcases h with h | h
  · exact .inl h
  · rcases hr with rfl | ⟨hn, rfl⟩
    · exact .inr (R_grownI h hg (by cases (Value.slice A xs.length c).ownBlock <;> simp))
    · rcases ha with h0 | h0 | h0
      · exact .inl (List.eq_nil_of_length_eq_zero h0)
      · exact absurd (List.eq_nil_of_length_eq_zero h0) hn
      · exact .inr (R_grownI h hg h0)
theorem RI.grownF {b2 : Nat} {u : Value} {fs : List Flit} (h : RI w lo A c xs) (hu : kF.R 80 w b2 (fun _ => True) u fs) (hg : w.grownBy w1 u.ownBlock) : RI w1 lo A c xs := by
  rcases h with h | h
  · exact .inl h
  · obtain ⟨i1, hi1⟩ := Kd.R_own h
    obtain ⟨i2, hi2⟩ := Kd.R_own hu
    exact .inr (R_grownI h hg (own_type_ne hi1 hi2 (by decide)))
end
structure NY (w : World) (lo : Nat) (n : Net) (q : NA) (v4 v7 v8 : List Value) : Prop where
  br : RI w lo q.a1 q.c1 n.mesh.br
  pa : RI w lo q.a2 q.c2 n.pa
  pb : RI w lo q.a3 q.c3 n.pb
  owners : RI w lo q.a5 q.c5 n.owners
  turns : RI w lo q.a6 q.c6 n.turns
  bufs : w.ownsRow lo 43 1 (.slice q.a4 n.bufs.length q.c4) n.bufs.length v4
  srcs : w.ownsRow lo 43 1 (.slice q.a7 n.srcs.length q.c7) n.srcs.length v7
  arrs : w.ownsRow lo 43 1 (.slice q.a8 n.arrs.length q.c8) n.arrs.length v8
  rows : FR w lo (v4 ++ (v7 ++ v8)) (n.bufs ++ (n.srcs ++ n.arrs))
  apI : AllAp0 5 (iv n q)
section
variable {w w1 : World} {lo : Nat} {n : Net} {q : NA} {v4 v7 v8 : List Value}
theorem NX.ny (h : NX w lo n q v4 v7 v8) : NY w lo n q v4 v7 v8 := ⟨.inr h.br, .inr h.pa, .inr h.pb, .inr h.owners, .inr h.turns, h.bufs, h.srcs, h.arrs, h.rows, h.apI⟩
theorem FR.chg {a b : Nat} {vs : List Value} {l : List (List Flit)} (h : FR w lo vs l) (hc : Chg a b w w1) (hh : b ≤ lo) : FR w1 lo vs l := ⟨h.len, fun i hi => R_chg (h.row i hi) hc hh, h.ap⟩
theorem own_chg {a b m : Nat} {v : Value} {vs : List Value} (h : w.ownsRow lo 43 1 v m vs) (hc : Chg a b w w1) (hh : b ≤ lo) : w1.ownsRow lo 43 1 v m vs := own_move h (fun k hk => hc.block k (own_lt h k hk) (.inr (Nat.le_trans hh (own_base h k hk))))
theorem NY.below (h : NY w lo n q v4 v7 v8) (hb : Below w.heap.size w w1) : NY w1 lo n q v4 v7 v8 := ⟨h.br.below hb, h.pa.below hb, h.pb.below hb, h.owners.below hb, h.turns.below hb, pw_own_below h.bufs hb, pw_own_below h.srcs hb, pw_own_below h.arrs hb, h.rows.below hb, h.apI⟩
theorem NY.chg {a b : Nat} (h : NY w lo n q v4 v7 v8) (hc : Chg a b w w1) (hh : b ≤ lo) : NY w1 lo n q v4 v7 v8 := ⟨h.br.chg hc hh, h.pa.chg hc hh, h.pb.chg hc hh, h.owners.chg hc hh, h.turns.chg hc hh, own_chg h.bufs hc hh, own_chg h.srcs hc hh, own_chg h.arrs hc hh, h.rows.chg hc hh, h.apI⟩
theorem NY.l4 (h : NY w lo n q v4 v7 v8) : v4.length = n.bufs.length := by have := h.bufs.1; omega
theorem NY.l7 (h : NY w lo n q v4 v7 v8) : v7.length = n.srcs.length := by have := h.srcs.1; omega
theorem NY.l8 (h : NY w lo n q v4 v7 v8) : v8.length = n.arrs.length := by have := h.arrs.1; omega
theorem NY.row4 (h : NY w lo n q v4 v7 v8) (k : Nat) (hk : k < n.bufs.length) : kF.R 80 w lo (fun _ => True) (vr v4 k) (rl n.bufs k) := by
  have := h.rows.row k (by simp; omega)
  rwa [vr_left (by rw [h.l4]; exact hk), rl_left hk] at this
theorem NY.row7 (h : NY w lo n q v4 v7 v8) (k : Nat) (hk : k < n.srcs.length) : kF.R 80 w lo (fun _ => True) (vr v7 k) (rl n.srcs k) := by
  have := h.rows.row (n.bufs.length + k) (by simp; omega)
  rw [rl_right, ← h.l4, vr_right] at this
  rwa [vr_left (by rw [h.l7]; exact hk), rl_left hk] at this
theorem NY.row8 (h : NY w lo n q v4 v7 v8) (k : Nat) (hk : k < n.arrs.length) : kF.R 80 w lo (fun _ => True) (vr v8 k) (rl n.arrs k) := by
  have := h.rows.row (n.bufs.length + (n.srcs.length + k)) (by simp; omega)
  rw [rl_right, rl_right, ← h.l4, vr_right, ← h.l7, vr_right] at this
  exact this
theorem NY.reads (h : NY w lo n q v4 v7 v8) (k : NB n) : NetR 80 w n q :=
  ⟨h.br.reads, h.pa.reads, h.pb.reads, (own_readsB h.bufs h.row4).2.2, h.owners.reads, h.turns.reads, (own_readsB h.srcs h.row7).2.2, (own_readsB h.arrs h.row8).2.2, k.h1, k.h2, k.h3, k.h4, k.h5, k.h6, k.h7, k.h8, k.h9, k.h10, k.h11⟩
end
theorem RI_lt {w : World} {lo : Nat} {A : Option Addr} {c : Nat} {xs : List Int} (h : RI w lo A c xs) : xs ≠ [] → ∀ i, (Value.slice A xs.length c).ownBlock = some i → lo ≤ i ∧ i < w.heap.size := by
  intro h0 i hi
  rcases h with h | h
  · exact absurd h h0
  · exact ⟨Kd.R_base h i hi, Kd.R_lt h i hi⟩
structure NT (hi : Nat) (n : Net) (q : NA) (v4 v7 v8 : List Value) : Prop where
  br : n.mesh.br ≠ [] → ∀ i, (Value.slice q.a1 n.mesh.br.length q.c1).ownBlock = some i → i < hi
  pa : n.pa ≠ [] → ∀ i, (Value.slice q.a2 n.pa.length q.c2).ownBlock = some i → i < hi
  pb : n.pb ≠ [] → ∀ i, (Value.slice q.a3 n.pb.length q.c3).ownBlock = some i → i < hi
  owners : n.owners ≠ [] → ∀ i, (Value.slice q.a5 n.owners.length q.c5).ownBlock = some i → i < hi
  turns : n.turns ≠ [] → ∀ i, (Value.slice q.a6 n.turns.length q.c6).ownBlock = some i → i < hi
  bufs : ∀ j : Nat, j < n.bufs.length → ∀ i, (vr v4 j).ownBlock = some i → i < hi
  srcs : ∀ j : Nat, j < n.srcs.length → ∀ i, (vr v7 j).ownBlock = some i → i < hi
  arrs : ∀ j : Nat, j < n.arrs.length → ∀ i, (vr v8 j).ownBlock = some i → i < hi
theorem NY.top {w : World} {lo : Nat} {n : Net} {q : NA} {v4 v7 v8 : List Value} (h : NY w lo n q v4 v7 v8) : NT w.heap.size n q v4 v7 v8 :=
  ⟨fun h0 i h9 => (RI_lt h.br h0 i h9).2, fun h0 i h9 => (RI_lt h.pa h0 i h9).2, fun h0 i h9 => (RI_lt h.pb h0 i h9).2, fun h0 i h9 => (RI_lt h.owners h0 i h9).2, fun h0 i h9 => (RI_lt h.turns h0 i h9).2, fun j hj i h9 => Kd.R_lt (h.row4 j hj) i h9, fun j hj i h9 => Kd.R_lt (h.row7 j hj) i h9, fun j hj i h9 => Kd.R_lt (h.row8 j hj) i h9⟩
def idleN (n : Net) : Bool := decide (totTo n.bufs n.bufs.length = 0) && decide (totTo n.srcs n.srcs.length = 0)
def movesV (n : Net) : Int := ((allGrants n).length : Int) + ((enteringN n).length : Int)
def stuckN (n : Net) : Bool := !idleN n && (movesV n == 0)
def isStuckN (n : Net) : Bool := netOk n && stuckN n
theorem tot_bound {l : List (List Flit)} (hn : l.length ≤ 2097152) (h : ∀ x ∈ l, x.length ≤ 2097152) (k : Nat) (hk : k ≤ l.length) : (totTo l k : Int) ≤ 4398046511104 := by
  have := totTo_le h k hk
  omega
theorem impl_flitsIn (l : List (List Flit)) (A : Option Addr) (c : Nat) (w : World) (hr : (kB 80).C w A l.length l) (hn : l.length ≤ 2097152) (hm : Hid (∀ x ∈ l, x.length ≤ 2097152)) :
    Calls Tryz.prog 40 #[.slice A l.length c] w fun e w' => e = .returned (.int .i64 (totTo l l.length : Int)) ∧ w = w' := by
  go_enter Tryz.func40, Tryz.ntmps40
  go_wp2
  go_loop [3, 8] (fun s i => ∃ k : Nat, i = .int .i64 k ∧ k ≤ l.length ∧ s = .int .i64 (totTo l k : Int)) (fun _ i => l.length - (intOf i).toNat)
  case atStart => exact ⟨0, rfl, Nat.zero_le _, rfl⟩
  case round =>
    obtain ⟨k, rfl, hk, rfl⟩ := hrel
    have hb := tot_bound hn hm.out k hk
    by_cases hlt : k < l.length
    · obtain ⟨b, off, rfl, hb, Ai, ci, p0, hle, hCi⟩ := rdB_at hr k hlt
      have hki := hm.out _ (rl_mem hlt)
      have hs : ((totTo l (k + 1) : Nat) : Int) = (totTo l k : Int) + ((rl l k).length : Int) := by simp [totTo]
      have HS := Lib.hid hs
      clear hs
      go_wp2
      go_round
      case rel => exact ⟨k + 1, by go_num, by omega, by rw [HS.out]⟩
      case measure => simp [intOf]; omega
    · obtain rfl : k = l.length := by omega
      go_wp2
      go_ret
      exact ⟨rfl, rfl⟩
theorem spec_l15Sum (l : List (List Flit)) (A : Option Addr) (c : Nat) (w : World) (hr : (kB 80).C w A l.length l) (hn : l.length ≤ 2097152) (hm : Hid (∀ x ∈ l, x.length ≤ 2097152)) :
    Calls Tryz.prog 135 #[.slice A l.length c] w fun e w' => e = .returned (.int .i64 (totTo l l.length : Int)) ∧ w = w' := by
  go_enter Tryz.func135, Tryz.ntmps135
  go_wp2
  go_loop [3, 4] (fun s i => ∃ k : Nat, i = .int .i64 k ∧ k ≤ l.length ∧ s = .int .i64 (totTo l k : Int)) (fun _ i => l.length - (intOf i).toNat)
  case atStart => exact ⟨0, rfl, Nat.zero_le _, rfl⟩
  case round =>
    obtain ⟨k, rfl, hk, rfl⟩ := hrel
    have hb := tot_bound hn hm.out k hk
    by_cases hlt : k < l.length
    · obtain ⟨b, off, rfl, hb, Ai, ci, p0, hle, hCi⟩ := rdB_at hr k hlt
      have hki := hm.out _ (rl_mem hlt)
      have hs : ((totTo l (k + 1) : Nat) : Int) = (totTo l k : Int) + ((rl l k).length : Int) := by simp [totTo]
      have HS := Lib.hid hs
      clear hs
      go_wp2
      go_round
      case rel => exact ⟨k + 1, by go_num, by omega, by rw [HS.out]⟩
      case measure => simp [intOf]; omega
    · obtain rfl : k = l.length := by omega
      go_wp2
      go_ret
      exact ⟨rfl, rfl⟩
theorem idle_1 {n : Net} (h : ¬ totTo n.bufs n.bufs.length = 0) : idleN n = false := by simp [idleN, h]
theorem idle_2 {n : Net} (h : totTo n.bufs n.bufs.length = 0) : idleN n = decide (totTo n.srcs n.srcs.length = 0) := by simp [idleN, h]
set_option maxHeartbeats 1000000 in
theorem impl_isIdle (n : Net) (q : NA) (bx : Nat) (w : World) (hr : NetR 80 w n q) (hx : Box w bx (netCells n q)) :
    Calls Tryz.prog 94 #[.pointer (some ⟨bx, 0, none⟩)] w fun e w' => e = .returned (.bool (idleN n)) ∧ w = w' := by
  obtain ⟨a1, a2, a3, a4, a5, a6, a7, a8, c1, c2, c3, c4, c5, c6, c7, c8⟩ := q; obtain ⟨Rbr, Rpa, Rpb, Rbu, Row, Rtu, Rso, Rar, L1, L2, L3, L4, L5, L6, L7, L8, L9, L10, L11⟩ := hr; have M9 := Lib.hid L9; have M10 := Lib.hid L10; have M11 := Lib.hid L11; clear L9 L10 L11; dsimp only [netCells] at *
  have xl := hx.lt; have x0 : w.cell? ⟨bx, 0, none⟩ = some (.int .i64 n.mesh.g.w) := hx.get 0; have x1 : w.cell? ⟨bx, 1, none⟩ = some (.int .i64 n.mesh.g.h) := hx.get 1; have x2 : w.cell? ⟨bx, 2, none⟩ = some (.slice a1 n.mesh.br.length c1) := hx.get 2; have x3 : w.cell? ⟨bx, 3, none⟩ = some (.slice a2 n.pa.length c2) := hx.get 3; have x4 : w.cell? ⟨bx, 4, none⟩ = some (.slice a3 n.pb.length c3) := hx.get 4; have x5 : w.cell? ⟨bx, 5, none⟩ = some (.slice a4 n.bufs.length c4) := hx.get 5; have x6 : w.cell? ⟨bx, 6, none⟩ = some (.slice a5 n.owners.length c5) := hx.get 6; have x7 : w.cell? ⟨bx, 7, none⟩ = some (.slice a6 n.turns.length c6) := hx.get 7; have x8 : w.cell? ⟨bx, 8, none⟩ = some (.slice a7 n.srcs.length c7) := hx.get 8; have x9 : w.cell? ⟨bx, 9, none⟩ = some (.slice a8 n.arrs.length c8) := hx.get 9; have x10 : w.cell? ⟨bx, 10, none⟩ = some (.int .i64 n.time) := hx.get 10; clear hx
  obtain ⟨s, es⟩ : ∃ s, totTo n.bufs n.bufs.length = s := ⟨_, rfl⟩
  obtain ⟨t, et⟩ : ∃ t, totTo n.srcs n.srcs.length = t := ⟨_, rfl⟩
  have ES := Lib.hid es
  have ET := Lib.hid et
  clear es et
  by_cases hs : s = 0
  · have HI : Hid (idleN n = decide (t = 0)) := Lib.hid (by rw [idle_2 (ES.out.trans hs), ET.out])
    have f1 : ((s : Int) == 0) = true := by simp [hs]
    clear hs
    go_enter Tryz.func94, Tryz.ntmps94
    go_wp2_with (first | (go_at_call_of 40 n.srcs; refine (impl_flitsIn n.srcs a7 c7 _ Rso L7 M10).mono ?_; rintro e w' ⟨he, rfl⟩; rw [ET.out] at he; subst he) | (go_at_call_of 40 n.bufs; refine (impl_flitsIn n.bufs a4 c4 _ Rbu L4 M9).mono ?_; rintro e w' ⟨he, rfl⟩; rw [ES.out] at he; subst he))
    go_ret
    exact ⟨ret_bool (by rw [HI.out]; by_cases h : t = 0 <;> simp [h]), rfl⟩
  · have HI : Hid (idleN n = false) := Lib.hid (idle_1 (by rw [ES.out]; exact hs))
    have f1 : ((s : Int) == 0) = false := by simp [hs]
    clear hs
    go_enter Tryz.func94, Tryz.ntmps94
    go_wp2_with (go_at_call_of 40 n.bufs; refine (impl_flitsIn n.bufs a4 c4 _ Rbu L4 M9).mono ?_; rintro e w' ⟨he, rfl⟩; rw [ES.out] at he; subst he)
    go_ret
    exact ⟨ret_bool HI.out.symm, rfl⟩
set_option maxHeartbeats 1000000 in
theorem spec_l20Idle (n : Net) (q : NA) (w : World) (hr : NetR 80 w n q) :
    Calls Tryz.prog 106 #[.agg (netCells n q)] w fun e w' => e = .returned (.bool (idleN n)) ∧ Below w.heap.size w w' := by
  obtain ⟨a1, a2, a3, a4, a5, a6, a7, a8, c1, c2, c3, c4, c5, c6, c7, c8⟩ := q; obtain ⟨Rbr, Rpa, Rpb, Rbu, Row, Rtu, Rso, Rar, L1, L2, L3, L4, L5, L6, L7, L8, L9, L10, L11⟩ := hr; have M9 := Lib.hid L9; have M10 := Lib.hid L10; have M11 := Lib.hid L11; clear L9 L10 L11; dsimp only [netCells] at *
  obtain ⟨s, es⟩ : ∃ s, totTo n.bufs n.bufs.length = s := ⟨_, rfl⟩
  obtain ⟨t, et⟩ : ∃ t, totTo n.srcs n.srcs.length = t := ⟨_, rfl⟩
  have ES := Lib.hid es
  have ET := Lib.hid et
  clear es et
  by_cases hs : s = 0
  · have HI : Hid (idleN n = decide (t = 0)) := Lib.hid (by rw [idle_2 (ES.out.trans hs), ET.out])
    have f1 : ((s : Int) == 0) = true := by simp [hs]
    clear hs
    go_enter Tryz.func106, Tryz.ntmps106
    go_wp2_with (first | (go_at_call_of 135 n.srcs; refine (spec_l15Sum n.srcs a7 c7 _ (by exact Kd.C_below Rso bel) L7 M10).mono ?_; rintro e w' ⟨he, rfl⟩; rw [ET.out] at he; subst he) | (go_at_call_of 135 n.bufs; refine (spec_l15Sum n.bufs a4 c4 _ (by exact Kd.C_below Rbu bel) L4 M9).mono ?_; rintro e w' ⟨he, rfl⟩; rw [ES.out] at he; subst he))
    go_ret
    exact ⟨ret_bool (by rw [HI.out]; by_cases h : t = 0 <;> simp [h]), bel⟩
  · have HI : Hid (idleN n = false) := Lib.hid (idle_1 (by rw [ES.out]; exact hs))
    have f1 : ((s : Int) == 0) = false := by simp [hs]
    clear hs
    go_enter Tryz.func106, Tryz.ntmps106
    go_wp2_with (go_at_call_of 135 n.bufs; refine (spec_l15Sum n.bufs a4 c4 _ (by exact Kd.C_below Rbu bel) L4 M9).mono ?_; rintro e w' ⟨he, rfl⟩; rw [ES.out] at he; subst he)
    go_ret
    exact ⟨ret_bool HI.out.symm, bel⟩
set_option maxHeartbeats 2000000 in
theorem impl_isStuck (n : Net) (q : NA) (bx : Nat) (w : World) (hr : NetR 80 w n q) (hx : Box w bx (netCells n q)) (ok : netOk n = true) :
    Calls Tryz.prog 63 #[.pointer (some ⟨bx, 0, none⟩)] w fun e w' => e = .returned (.bool (stuckN n)) ∧ Below w.heap.size w w' := by
  have R := Lib.hid hr
  have X := Lib.hid hx
  have OK := Lib.hid ok
  clear hr hx ok
  cases hi : idleN n
  · have HI : Hid (stuckN n = (movesV n == 0)) := Lib.hid (by simp [stuckN, hi])
    obtain ⟨m, em⟩ : ∃ m, movesV n = m := ⟨_, rfl⟩
    rw [em] at HI
    have EM := Lib.hid (show ((allGrants n).length : Int) + ((enteringN n).length : Int) = m from em)
    have H2 := Lib.hid hi
    clear em hi
    go_enter Tryz.func63, Tryz.ntmps63
    go_wp2_with (first | (go_at_call 94; refine (impl_isIdle n q bx _ R.out X.out).mono ?_; rintro e w' ⟨he, rfl⟩; rw [H2.out] at he; subst he) | (go_at_call 47; refine (impl_moves n q bx _ (R.out.below bel) (X.out.below bel) OK.out).mono ?_; rintro e w1 ⟨he, hb1⟩; rw [EM.out] at he; subst he; obtain ⟨hc1, hf1, hz1⟩ := bcell hb1; (try simp only [szs] at hz1); have hb2 := far2; obtain ⟨hc2, hf2, hz2⟩ := bcell hb2; (try simp only [szs] at hz2); try (first | obtain ⟨hy1, hy2, hy3, hy4⟩ := lts4 hz2 | obtain ⟨hy1, hy2, hy3⟩ := lts3 hz2 | obtain ⟨hy1, hy2⟩ := lts2 hz2 | have hy1 := lts1 hz2); have hb9 := hb1))
    go_ret
    exact ⟨ret_bool HI.out.symm, bel⟩
  · have HI : Hid (stuckN n = false) := Lib.hid (by simp [stuckN, hi])
    have H2 := Lib.hid hi
    clear hi
    go_enter Tryz.func63, Tryz.ntmps63
    go_wp2_with (go_at_call 94; refine (impl_isIdle n q bx _ R.out X.out).mono ?_; rintro e w' ⟨he, rfl⟩; rw [H2.out] at he; subst he)
    go_ret
    exact ⟨ret_bool HI.out.symm, bel⟩
set_option maxHeartbeats 2000000 in
theorem impl_IsStuck (n : Net) (q : NA) (w : World) (hr : NetR 80 w n q) : Calls Tryz.prog 34 #[.agg (netCells n q)] w fun e w' => e = .returned (.bool (isStuckN n)) ∧ Below w.heap.size w w' := by
  have R := Lib.hid hr
  obtain ⟨a1, a2, a3, a4, a5, a6, a7, a8, c1, c2, c3, c4, c5, c6, c7, c8⟩ := q
  clear hr
  dsimp only [netCells]
  have X := fun (W : World) hb => Box.below (w1 := W) (Box.new w _ #[.int .i64 n.mesh.g.w, .int .i64 n.mesh.g.h, .slice a1 n.mesh.br.length c1, .slice a2 n.pa.length c2, .slice a3 n.pb.length c3, .slice a4 n.bufs.length c4, .slice a5 n.owners.length c5, .slice a6 n.turns.length c6, .slice a7 n.srcs.length c7, .slice a8 n.arrs.length c8, .int .i64 n.time] 35 rfl) hb
  cases hk : netOk n
  · have HE : Hid (isStuckN n = false) := Lib.hid (by simp [isStuckN, hk])
    go_enter Tryz.func34, Tryz.ntmps34
    go_wp2_with (go_at_call 21; refine (impl_NetOk n _ _ (R.out.below bel)).mono ?_; rintro e w1 ⟨rfl, hb1⟩; obtain ⟨hc1, hf1, hz1⟩ := bcell hb1; (try simp only [szs] at hz1); have hb2 := far2; obtain ⟨hc2, hf2, hz2⟩ := bcell hb2; (try simp only [szs] at hz2); try (first | obtain ⟨hy1, hy2, hy3, hy4⟩ := lts4 hz2 | obtain ⟨hy1, hy2, hy3⟩ := lts3 hz2 | obtain ⟨hy1, hy2⟩ := lts2 hz2 | have hy1 := lts1 hz2); have hb9 := hb1)
    go_ret
    exact ⟨ret_bool HE.out.symm, bel⟩
  · have HE : Hid (isStuckN n = stuckN n) := Lib.hid (by simp [isStuckN, hk])
    have HK := Lib.hid hk
    go_enter Tryz.func34, Tryz.ntmps34
    go_wp2_with (first | (go_at_call 21; refine (impl_NetOk n _ _ (R.out.below bel)).mono ?_; rintro e w1 ⟨rfl, hb1⟩; obtain ⟨hc1, hf1, hz1⟩ := bcell hb1; (try simp only [szs] at hz1); have hb2 := far2; obtain ⟨hc2, hf2, hz2⟩ := bcell hb2; (try simp only [szs] at hz2); try (first | obtain ⟨hy1, hy2, hy3, hy4⟩ := lts4 hz2 | obtain ⟨hy1, hy2, hy3⟩ := lts3 hz2 | obtain ⟨hy1, hy2⟩ := lts2 hz2 | have hy1 := lts1 hz2); have hb9 := hb1) | (go_at_call 63; refine (impl_isStuck n _ _ _ (R.out.below bel) (X _ bel) HK.out).mono ?_; rintro e w1 ⟨rfl, hb1⟩; obtain ⟨hc1, hf1, hz1⟩ := bcell hb1; (try simp only [szs] at hz1); have hb2 := far2; obtain ⟨hc2, hf2, hz2⟩ := bcell hb2; (try simp only [szs] at hz2); try (first | obtain ⟨hy1, hy2, hy3, hy4⟩ := lts4 hz2 | obtain ⟨hy1, hy2, hy3⟩ := lts3 hz2 | obtain ⟨hy1, hy2⟩ := lts2 hz2 | have hy1 := lts1 hz2); have hb9 := hb1))
    go_ret
    exact ⟨ret_bool HE.out.symm, bel⟩
end Go.Proofs.YtaihmgbflhbebaaGreat
