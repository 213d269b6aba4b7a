/- Lemmas for laws of this seat, for all inputs: Lo CpN. -/
import Derived.Test.YtmkbmddgkdoaiaaGreatD4
import Derived.RegionTactic
import Derived.Test.YtmkbmddgkdoaiaaGreatD6
set_option linter.unusedVariables false
set_option linter.unusedSimpArgs false
namespace Go.Proofs.YtmkbmddgkdoaiaaGreat
open Go.RowKit Go.Proofs.YtmkbmddgkdoaiaaGreatW.PrintWords
inductive LK where
  | quiet
  | lit
  | chain
deriving DecidableEq
def LoOp (P : Program) (o : Oper) (a : Act) (w : World) (post : Value → World → Prop) : Prop :=
  match (execOp a.eval o).run P w with
  | .ok (.value v) w' => post v w'
  | .ok (.enter f args) w' => Calls P f args w' fun e w'' => ∃ v, e = .returned v ∧ post v w''
  | .ok .skip w' => o.dst = none ∧ post undef w'
  | _ => False
theorem LoOp.wp {P : Program} {o : Oper} {a : Act} {w : World} {post : Value → World → Prop} (h : LoOp P o a w post) {K : Act → World → Prop} {Q : Exit → Act → World → Prop} (hK : ∀ v w', post v w' → K (a.put o.dst v) w') : Oper.wp P o a w K Q := by
  unfold LoOp at h
  unfold Oper.wp
  generalize (execOp a.eval o).run P w = r at *
  cases r with
  | ok n w' =>
    cases n <;> simp only [Oper.upon] at h ⊢
    case value v => exact hK _ _ h
    case skip =>
      have h2 := hK _ _ h.2
      rw [h.1] at h2 ⊢
      exact h2
    case enter f args =>
      refine Calls.mono h fun e w'' he => ?_
      obtain ⟨v, rfl, hp⟩ := he
      exact hK _ _ hp
  | halt x w' => exact h.elim
section
variable (P : Program) (ops : Array Oper) (C : World → Prop) (B : Nat) (le : Nat → TypeId) (vq : Nat → Value) (Z : Act → (World → Prop) → Prop)
def wpLo : List (Nat × LK) → Act → (World → Prop) → Prop
  | [], a, F => Z a F
  | (i, .quiet) :: rest, a, F => ∃ o, ops[i]? = some o ∧ Region.wanted o (yielded ops a.tmps) = true ∧ (∀ w, C w → (execOp a.eval o).run P w = .ok (.value (vq i)) w) ∧ wpLo rest (a.put o.dst (vq i)) F
  | (i, .lit) :: rest, a, F => ∃ o, ops[i]? = some o ∧ Region.wanted o (yielded ops a.tmps) = true ∧ (∀ w, (execOp a.eval o).run P w = .ok (.value (.slice (some ⟨w.heap.size, 0, none⟩) 0 0)) (w.alloc (.cells #[] (le i)))) ∧ ∀ g, B ≤ g → wpLo rest (a.put o.dst (.slice (some ⟨g, 0, none⟩) 0 0)) (fun w => F w ∧ Lit (le i) w g)
  | (i, .chain) :: rest, a, F => ∃ o, ops[i]? = some o ∧ Region.wanted o (yielded ops a.tmps) = true ∧ ∃ (ι : Type) (y0 : ι) (val : ι → Value) (G : ι → World → Prop), (∀ y w w', G y w → Stp w w' → G y w') ∧ (∀ w, F w → C w → LoOp P o a w (fun v w' => ∃ y, v = val y ∧ Stp w w' ∧ G y w')) ∧ ∀ y, wpLo rest (a.put o.dst (val y)) (fun w => F w ∧ G y w)
end
section
variable {P : Program} {ops : Array Oper} {C : World → Prop} {B : Nat} {le : Nat → TypeId} {vq : Nat → Value} {Z : Act → (World → Prop) → Prop}
theorem wpLo_q {i : Nat} {rest : List (Nat × LK)} {a : Act} {F : World → Prop} {o : Oper} (d : Option Tmp) (ho : ops[i]? = some o) (hd : o.dst = d) (hw : Region.wanted o (yielded ops a.tmps) = true) (hr : ∀ w, C w → (execOp a.eval o).run P w = .ok (.value (vq i)) w) (h : wpLo P ops C B le vq Z rest (a.put d (vq i)) F) : wpLo P ops C B le vq Z ((i, .quiet) :: rest) a F := ⟨o, ho, hw, hr, hd ▸ h⟩
theorem wpLo_l {i : Nat} {rest : List (Nat × LK)} {a : Act} {F : World → Prop} {o : Oper} (d : Option Tmp) (ho : ops[i]? = some o) (hd : o.dst = d) (hw : Region.wanted o (yielded ops a.tmps) = true) (hr : ∀ w, (execOp a.eval o).run P w = .ok (.value (.slice (some ⟨w.heap.size, 0, none⟩) 0 0)) (w.alloc (.cells #[] (le i)))) (h : ∀ g, B ≤ g → wpLo P ops C B le vq Z rest (a.put d (.slice (some ⟨g, 0, none⟩) 0 0)) (fun w => F w ∧ Lit (le i) w g)) : wpLo P ops C B le vq Z ((i, .lit) :: rest) a F := ⟨o, ho, hw, hr, hd ▸ h⟩
theorem wpLo_c {i : Nat} {rest : List (Nat × LK)} {a : Act} {F : World → Prop} {o : Oper} (d : Option Tmp) (ho : ops[i]? = some o) (hd : o.dst = d) (hw : Region.wanted o (yielded ops a.tmps) = true) {ι : Type} (y0 : ι) (val : ι → Value) (G : ι → World → Prop) (hG : ∀ y w w', G y w → Stp w w' → G y w') (hr : ∀ w, F w → C w → LoOp P o a w (fun v w' => ∃ y, v = val y ∧ Stp w w' ∧ G y w')) (h : ∀ y, wpLo P ops C B le vq Z rest (a.put d (val y)) (fun w => F w ∧ G y w)) : wpLo P ops C B le vq Z ((i, .chain) :: rest) a F := ⟨o, ho, hw, ι, y0, val, G, hG, hr, hd ▸ h⟩
theorem wpLo_z {a : Act} {F : World → Prop} (h : Z a F) : wpLo P ops C B le vq Z [] a F := h
theorem wpLo_mono (hZ : ∀ a F F', (∀ w, F' w → F w) → Z a F → Z a F') : ∀ (l : List (Nat × LK)) (a : Act) (F F' : World → Prop), (∀ w, F' w → F w) → wpLo P ops C B le vq Z l a F → wpLo P ops C B le vq Z l a F' := by
  intro l
  induction l with
  | nil => intro a F F' h hw; exact hZ a F F' h hw
  | cons x rest ih =>
    intro a F F' h hw
    obtain ⟨i, k⟩ := x
    cases k with
    | quiet =>
      obtain ⟨o, h1, h2, h3, h4⟩ := hw
      exact ⟨o, h1, h2, h3, ih _ _ _ h h4⟩
    | lit =>
      obtain ⟨o, h1, h2, h3, h4⟩ := hw
      exact ⟨o, h1, h2, h3, fun g hg => ih _ _ _ (fun w hw => ⟨h w hw.1, hw.2⟩) (h4 g hg)⟩
    | chain =>
      obtain ⟨o, h1, h2, ι, y0, val, G, h3, h4, h5⟩ := hw
      exact ⟨o, h1, h2, ι, y0, val, G, h3, fun w hF hC => h4 w (h w hF) hC, fun y => ih _ _ _ (fun w hw => ⟨h w hw.1, hw.2⟩) (h5 y)⟩
theorem LoOp_put {o : Oper} {a : Act} {w : World} {post : Value → World → Prop} (hs : ∀ cs b, o.op ≠ .select cs b) (d : Option Tmp) (u : Value) (h3 : ∀ t, d = some t → t ∉ o.looksAt ops) : LoOp P o (a.put d u) w post ↔ LoOp P o a w post := by
  unfold LoOp
  rw [execOp_put o hs a d u h3]
theorem wpLo_move (hZ : ∀ a F F', (∀ w, F' w → F w) → Z a F → Z a F') (hsel : ∀ (j : Nat) (o : Oper) cs b, ops[j]? = some o → o.op ≠ .select cs b) {b : Nat} {k : LK} {ob : Oper} (hob : ops[b]? = some ob) (hk : k ≠ .chain) (l2 : List (Nat × LK)) :
  ∀ (l1 : List (Nat × LK)) (a : Act) (F : World → Prop), (∀ x ∈ l1, ∀ ox, ops[x.1]? = some ox → ob.apart ops ox = true) → wpLo P ops C B le vq Z (l1 ++ (b, k) :: l2) a F → wpLo P ops C B le vq Z ((b, k) :: (l1 ++ l2)) a F := by
 intro l1
 induction l1 with
 | nil => intro a F _ h; exact h
 | cons x l1 ih =>
  intro a F hap h
  obtain ⟨i, ki⟩ := x
  have hapr : ∀ y ∈ l1, ∀ oy, ops[y.1]? = some oy → ob.apart ops oy = true := fun y hy => hap y (by simp [hy])
  have core : ∀ ox, ops[i]? = some ox → (∀ d, ob.dst = some d → d ∉ ox.looksAt ops) ∧ (∀ d, ob.dst = some d → ox.dst ≠ some d) ∧ (∀ d, ox.dst = some d → d ∉ ob.looksAt ops) := fun ox hox => Oper.apart_spec (hap (i, ki) (by simp) ox hox)
  cases k with
  | chain => exact absurd rfl hk
  | quiet =>
   cases ki with
   | quiet =>
    obtain ⟨ox, h1, h2, h3, h4⟩ := h
    obtain ⟨c1, c2, c3⟩ := core ox h1
    obtain ⟨ob', e1, e2, e3, e4⟩ := ih _ _ hapr h4
    obtain rfl := Option.some.inj (hob.symm.trans e1)
    refine ⟨_, hob, by rw [← e2]; exact (wanted_put _ a ox.dst (vq i) c3).symm, fun w hC => by rw [← execOp_put (ops := ops) _ (hsel b _ · · hob) a ox.dst (vq i) c3]; exact e3 w hC, ox, h1, by rw [wanted_put ox a _ _ c1]; exact h2, fun w hC => by rw [execOp_put (ops := ops) ox (hsel i ox · · h1) a _ _ c1]; exact h3 w hC, ?_⟩
    rw [Act.put_comm a _ _ c2]
    exact e4
   | lit =>
    obtain ⟨ox, h1, h2, h3, h4⟩ := h
    obtain ⟨c1, c2, c3⟩ := core ox h1
    obtain ⟨ob', e1, e2, e3, e4⟩ := ih _ _ hapr (h4 B (Nat.le_refl _))
    obtain rfl := Option.some.inj (hob.symm.trans e1)
    refine ⟨_, hob, by rw [← e2]; exact (wanted_put _ a ox.dst _ c3).symm, fun w hC => by rw [← execOp_put (ops := ops) _ (hsel b _ · · hob) a ox.dst _ c3]; exact e3 w hC, ox, h1, by rw [wanted_put ox a _ _ c1]; exact h2, fun w => by rw [execOp_put (ops := ops) ox (hsel i ox · · h1) a _ _ c1]; exact h3 w, fun g hg => ?_⟩
    obtain ⟨ob'', f1, f2, f3, f4⟩ := ih _ _ hapr (h4 g hg)
    obtain rfl := Option.some.inj (hob.symm.trans f1)
    rw [Act.put_comm a _ _ c2]
    exact f4
   | chain =>
    obtain ⟨ox, h1, h2, ι, y0, val, G, h3, h4, h5⟩ := h
    obtain ⟨c1, c2, c3⟩ := core ox h1
    obtain ⟨ob', e1, e2, e3, e4⟩ := ih _ _ hapr (h5 y0)
    obtain rfl := Option.some.inj (hob.symm.trans e1)
    refine ⟨_, hob, by rw [← e2]; exact (wanted_put _ a ox.dst _ c3).symm, fun w hC => by rw [← execOp_put (ops := ops) _ (hsel b _ · · hob) a ox.dst _ c3]; exact e3 w hC, ox, h1, by rw [wanted_put ox a _ _ c1]; exact h2, ι, y0, val, G, h3, fun w hF hC => (LoOp_put (hsel i ox · · h1) _ _ c1).2 (h4 w hF hC), fun y => ?_⟩
    obtain ⟨ob'', f1, f2, f3, f4⟩ := ih _ _ hapr (h5 y)
    obtain rfl := Option.some.inj (hob.symm.trans f1)
    rw [Act.put_comm a _ _ c2]
    exact f4
  | lit =>
   cases ki with
   | quiet =>
    obtain ⟨ox, h1, h2, h3, h4⟩ := h
    obtain ⟨c1, c2, c3⟩ := core ox h1
    obtain ⟨ob', e1, e2, e3, e4⟩ := ih _ _ hapr h4
    obtain rfl := Option.some.inj (hob.symm.trans e1)
    refine ⟨_, hob, by rw [← e2]; exact (wanted_put _ a ox.dst _ c3).symm, fun w => by rw [← execOp_put (ops := ops) _ (hsel b _ · · hob) a ox.dst _ c3]; exact e3 w, fun gb hgb => ⟨ox, h1, by rw [wanted_put ox a _ _ c1]; exact h2, fun w hC => by rw [execOp_put (ops := ops) ox (hsel i ox · · h1) a _ _ c1]; exact h3 w hC, ?_⟩⟩
    rw [Act.put_comm a _ _ c2]
    exact e4 gb hgb
   | lit =>
    obtain ⟨ox, h1, h2, h3, h4⟩ := h
    obtain ⟨c1, c2, c3⟩ := core ox h1
    obtain ⟨ob', e1, e2, e3, e4⟩ := ih _ _ hapr (h4 B (Nat.le_refl _))
    obtain rfl := Option.some.inj (hob.symm.trans e1)
    refine ⟨_, hob, by rw [← e2]; exact (wanted_put _ a ox.dst _ c3).symm, fun w => by rw [← execOp_put (ops := ops) _ (hsel b _ · · hob) a ox.dst _ c3]; exact e3 w, fun gb hgb => ⟨ox, h1, by rw [wanted_put ox a _ _ c1]; exact h2, fun w => by rw [execOp_put (ops := ops) ox (hsel i ox · · h1) a _ _ c1]; exact h3 w, fun g hg => ?_⟩⟩
    obtain ⟨ob'', f1, f2, f3, f4⟩ := ih _ _ hapr (h4 g hg)
    obtain rfl := Option.some.inj (hob.symm.trans f1)
    rw [Act.put_comm a _ _ c2]
    exact wpLo_mono hZ _ _ _ _ (fun w hw => ⟨⟨hw.1.1, hw.2⟩, hw.1.2⟩) (f4 gb hgb)
   | chain =>
    obtain ⟨ox, h1, h2, ι, y0, val, G, h3, h4, h5⟩ := h
    obtain ⟨c1, c2, c3⟩ := core ox h1
    obtain ⟨ob', e1, e2, e3, e4⟩ := ih _ _ hapr (h5 y0)
    obtain rfl := Option.some.inj (hob.symm.trans e1)
    refine ⟨_, hob, by rw [← e2]; exact (wanted_put _ a ox.dst _ c3).symm, fun w => by rw [← execOp_put (ops := ops) _ (hsel b _ · · hob) a ox.dst _ c3]; exact e3 w, fun gb hgb => ⟨ox, h1, by rw [wanted_put ox a _ _ c1]; exact h2, ι, y0, val, G, h3, fun w hF hC => (LoOp_put (hsel i ox · · h1) _ _ c1).2 (h4 w hF.1 hC), fun y => ?_⟩⟩
    obtain ⟨ob'', f1, f2, f3, f4⟩ := ih _ _ hapr (h5 y)
    obtain rfl := Option.some.inj (hob.symm.trans f1)
    rw [Act.put_comm a _ _ c2]
    exact wpLo_mono hZ _ _ _ _ (fun w hw => ⟨⟨hw.1.1, hw.2⟩, hw.1.2⟩) (f4 gb hgb)

def anc (ops : Array Oper) : Nat → Nat → List Nat
  | 0, _ => []
  | k + 1, i => match ops[i]? with
    | none => []
    | some o => o.after.toList.flatMap fun e => if Region.binds .any e = true then e.on :: anc ops k e.on else []
def Down (ops : Array Oper) (listed : Array Bool) : Prop := ∀ j oj, ops[j]? = some oj → listed.getD j false = true → ∀ e ∈ oj.after, Region.binds .any e = true → listed.getD e.on false = true
theorem anc_listed {listed : Array Bool} (hd : Down ops listed) : ∀ (k i : Nat), (∀ o, ops[i]? = some o → ∀ e ∈ o.after, Region.binds .any e = true → listed.getD e.on false = true) → ∀ y ∈ anc ops k i, listed.getD y false = true := by
  intro k
  induction k with
  | zero => intro i _ y hy; simp [anc] at hy
  | succ k ih =>
    intro i h y hy
    unfold anc at hy
    cases ho : ops[i]? with
    | none => rw [ho] at hy; simp at hy
    | some o =>
      rw [ho] at hy
      simp only [List.mem_flatMap] at hy
      obtain ⟨e, he, hy⟩ := hy
      have he' : e ∈ o.after := by simpa using he
      split at hy
      · rename_i hb
        have h1 := h o ho e he' hb
        rcases List.mem_cons.1 hy with rfl | hy
        · exact h1
        · exact ih e.on (fun o' ho' e' he'' hb' => hd e.on o' ho' h1 e' he'' hb') y hy
      · simp at hy
def goodLo (ops : Array Oper) : List Nat → List (Nat × LK) → Bool
  | _, [] => true
  | run, (j, .chain) :: rest => run.all (fun y => (anc ops 3 j).contains y) && goodLo ops [j] rest
  | run, (j, _) :: rest => goodLo ops (j :: run) rest
theorem goodLo_mono : ∀ (l : List (Nat × LK)) (run run' : List Nat), (∀ y ∈ run', y ∈ run) → goodLo ops run l = true → goodLo ops run' l = true := by
  intro l
  induction l with
  | nil => intro _ _ _ _; rfl
  | cons x l ih =>
    intro run run' h hg
    obtain ⟨j, k⟩ := x
    cases k with
    | chain =>
      simp only [goodLo, Bool.and_eq_true, List.all_eq_true] at hg ⊢
      exact ⟨fun y hy => hg.1 y (h y hy), hg.2⟩
    | quiet => exact ih _ _ (fun y hy => by rcases List.mem_cons.1 hy with rfl | hy; exact List.mem_cons_self; exact List.mem_cons_of_mem _ (h y hy)) hg
    | lit => exact ih _ _ (fun y hy => by rcases List.mem_cons.1 hy with rfl | hy; exact List.mem_cons_self; exact List.mem_cons_of_mem _ (h y hy)) hg
theorem goodLo_tail {x : Nat × LK} {l : List (Nat × LK)} (h : goodLo ops [] (x :: l) = true) : goodLo ops [] l = true := by
  obtain ⟨j, k⟩ := x
  cases k with
  | chain =>
    simp only [goodLo, Bool.and_eq_true] at h
    exact goodLo_mono _ _ _ (fun y hy => by simp at hy) h.2
  | quiet => exact goodLo_mono _ _ _ (fun y hy => by simp at hy) h
  | lit => exact goodLo_mono _ _ _ (fun y hy => by simp at hy) h
theorem goodLo_drop {b : Nat} {k : LK} (hk : k ≠ .chain) (l2 : List (Nat × LK)) : ∀ (l1 : List (Nat × LK)) (run : List Nat), goodLo ops run (l1 ++ (b, k) :: l2) = true → goodLo ops run (l1 ++ l2) = true := by
  intro l1
  induction l1 with
  | nil =>
    intro run h
    cases k with
    | chain => exact absurd rfl hk
    | quiet => exact goodLo_mono _ _ _ (fun y hy => List.mem_cons_of_mem _ hy) h
    | lit => exact goodLo_mono _ _ _ (fun y hy => List.mem_cons_of_mem _ hy) h
  | cons x l1 ih =>
    intro run h
    obtain ⟨j, kj⟩ := x
    cases kj with
    | chain =>
      simp only [List.cons_append, goodLo, Bool.and_eq_true] at h ⊢
      exact ⟨h.1, ih _ h.2⟩
    | quiet => exact ih _ h
    | lit => exact ih _ h
theorem goodLo_waits {j : Nat} : ∀ (l1 l2 : List (Nat × LK)) (run : List Nat), run ≠ [] → goodLo ops run (l1 ++ (j, .chain) :: l2) = true → ∃ y, (y ∈ run ∨ y ∈ l1.map (·.1)) ∧ y ∈ anc ops 3 j := by
  intro l1
  induction l1 with
  | nil =>
    intro l2 run hr h
    simp only [List.nil_append, goodLo, Bool.and_eq_true, List.all_eq_true] at h
    cases run with
    | nil => exact absurd rfl hr
    | cons y r => exact ⟨y, .inl (by simp), by simpa using h.1 y (by simp)⟩
  | cons x l1 ih =>
    intro l2 run hr h
    obtain ⟨i, k⟩ := x
    cases k with
    | chain =>
      simp only [List.cons_append, goodLo, Bool.and_eq_true] at h
      obtain ⟨y, h1, h2⟩ := ih l2 [i] (by simp) h.2
      refine ⟨y, .inr ?_, h2⟩
      rcases h1 with h1 | h1
      · simp only [List.mem_singleton] at h1; subst h1; simp
      · simp only [List.map_cons, List.mem_cons]; exact .inr h1
    | quiet =>
      obtain ⟨y, h1, h2⟩ := ih l2 (i :: run) (by simp) h
      refine ⟨y, ?_, h2⟩
      rcases h1 with h1 | h1
      · rcases List.mem_cons.1 h1 with rfl | h1
        · exact .inr (by simp)
        · exact .inl h1
      · exact .inr (by simp only [List.map_cons, List.mem_cons]; exact .inr h1)
    | lit =>
      obtain ⟨y, h1, h2⟩ := ih l2 (i :: run) (by simp) h
      refine ⟨y, ?_, h2⟩
      rcases h1 with h1 | h1
      · rcases List.mem_cons.1 h1 with rfl | h1
        · exact .inr (by simp)
        · exact .inl h1
      · exact .inr (by simp only [List.map_cons, List.mem_cons]; exact .inr h1)
def pairLo (ops : Array Oper) (x b : Nat × LK) : Bool := decide (b.2 = .chain) || (anc ops 3 b.1).contains x.1 || (match ops[b.1]?, ops[x.1]? with | some ob, some ox => ob.apart ops ox | _, _ => false)
def pairsLo (ops : Array Oper) : List (Nat × LK) → Bool
  | [] => true
  | x :: r => r.all (pairLo ops x) && pairsLo ops r
theorem pairsLo_drop {x : Nat × LK} (l2 : List (Nat × LK)) : ∀ l1 : List (Nat × LK), pairsLo ops (l1 ++ x :: l2) = true → pairsLo ops (l1 ++ l2) = true := by
  intro l1
  induction l1 with
  | nil => intro h; simp only [List.nil_append, pairsLo, Bool.and_eq_true] at h ⊢; exact h.2
  | cons y l1 ih =>
    intro h
    simp only [List.cons_append, pairsLo, Bool.and_eq_true, List.all_eq_true] at h ⊢
    refine ⟨fun z hz => h.1 z ?_, ih h.2⟩
    rcases List.mem_append.1 hz with hz | hz
    · exact List.mem_append_left _ hz
    · exact List.mem_append_right _ (List.mem_cons_of_mem _ hz)
theorem pairsLo_at {x : Nat × LK} (l2 : List (Nat × LK)) : ∀ l1 : List (Nat × LK), pairsLo ops (l1 ++ x :: l2) = true → ∀ y ∈ l1, pairLo ops y x = true := by
  intro l1
  induction l1 with
  | nil => intro _ y hy; simp at hy
  | cons z l1 ih =>
    intro h y hy
    simp only [List.cons_append, pairsLo, Bool.and_eq_true, List.all_eq_true] at h
    rcases List.mem_cons.1 hy with rfl | hy
    · exact h.1 x (by simp)
    · exact ih h.2 y hy
structure LoInv (ops : Array Oper) (m : Nat) (l : List (Nat × LK)) (listed : Array Bool) : Prop where
  size : listed.size = ops.size
  mem : ∀ i, i < m → (listed.getD i true = false ↔ i ∈ l.map (·.1))
  lt : ∀ x ∈ l, x.1 < m
  last : listed.getD m true = false
  down : Down ops listed
  sorted : l.Pairwise (fun x y => x.1 < y.1)
theorem getD_two {listed : Array Bool} {i : Nat} (hi : i < listed.size) : listed.getD i true = false ↔ ¬ listed.getD i false = true := by
  simp [hi]
theorem LoInv.next {m i : Nat} {k : LK} {l1 l2 : List (Nat × LK)} {listed : Array Bool} (h : LoInv ops m (l1 ++ (i, k) :: l2) listed) (hr : i ∈ Region.ready .any ops listed) : LoInv ops m (l1 ++ l2) (listed.setIfInBounds i true) := by
  obtain ⟨h0, o, ho, hall⟩ := mem_ready.1 hr
  have him : i < m := h.lt (i, k) (by simp)
  have hs := h.sorted
  rw [List.pairwise_append, List.pairwise_cons] at hs
  obtain ⟨s1, ⟨s2, s3⟩, s4⟩ := hs
  refine ⟨by simp [h.size], fun j hj => ?_, fun x hx => h.lt x (by rcases List.mem_append.1 hx with hx | hx; exact List.mem_append_left _ hx; exact List.mem_append_right _ (List.mem_cons_of_mem _ hx)), ?_, fun j oj hoj hl e he hb => ?_, ?_⟩
  · by_cases e : i = j
    · subst e
      have hlt : i < listed.size := by
        rcases Nat.lt_or_ge i listed.size with h1 | h1
        · exact h1
        · simp [Array.getElem?_eq_none h1] at h0
      constructor
      · intro hf
        simp [hlt] at hf
      · intro hm
        exfalso
        rw [List.map_append, List.mem_append] at hm
        rcases hm with hm | hm
        · obtain ⟨x, hx, e⟩ := List.mem_map.1 hm
          have := s4 x hx (i, k) (by simp)
          simp only at this e
          omega
        · obtain ⟨x, hx, e⟩ := List.mem_map.1 hm
          have := s2 x hx
          simp only at this e
          omega
    · rw [getD_set_ne true e, h.mem j hj]
      simp only [List.map_append, List.map_cons, List.mem_append, List.mem_cons]
      constructor
      · rintro (h1 | rfl | h1)
        · exact .inl h1
        · exact absurd rfl e
        · exact .inr h1
      · rintro (h1 | h1)
        · exact .inl h1
        · exact .inr (.inr h1)
  · rw [getD_set_ne true (by omega)]
    exact h.last
  · by_cases e2 : i = j
    · subst e2
      obtain rfl := Option.some.inj (ho.symm.trans hoj)
      exact getD_set_true (hall e he hb)
    · rw [getD_set_ne false e2] at hl
      exact getD_set_true (h.down j oj hoj hl e he hb)
  · rw [List.pairwise_append]
    exact ⟨s1, s3, fun x hx y hy => s4 x hx y (List.mem_cons_of_mem _ hy)⟩
theorem lo_done {Q : Exit → Act → World → Prop} {listed : Array Bool} {a : Act} {w : World} (hr : Region.ready .any ops listed = []) (h : Q .normal a w) : ∀ fuel, wpAny P .any ops Q fuel listed a w
  | 0 => ⟨hr, h⟩
  | _ + 1 => ⟨fun _ => h, by rw [hr]; simp⟩
def lastLo (ops : Array Oper) (m : Nat) : Bool := match ops[m]? with
  | some om => (List.range m).all fun k => om.after.any fun e => Region.binds .any e && decide (e.on = k)
  | none => false
def backLo (ops : Array Oper) : Bool := (List.range ops.size).all fun i => match ops[i]? with
  | some o => o.after.all fun e => !(Region.binds .any e) || decide (e.on < i)
  | none => true
theorem back_at (hb : backLo ops = true) {i : Nat} {o : Oper} (ho : ops[i]? = some o) : ∀ e ∈ o.after, Region.binds .any e = true → e.on < i := by
  intro e he hbe
  have hi : i < ops.size := (Array.getElem?_eq_some_iff.1 ho).1
  simp only [backLo, List.all_eq_true, List.mem_range] at hb
  have := hb i hi
  rw [ho] at this
  simp only at this
  rw [Array.all_eq_true_iff_forall_mem] at this
  have h2 := this e he
  rw [hbe] at h2
  simpa using h2
theorem lo_sound {Q : Exit → Act → World → Prop} {m : Nat} (hZ : ∀ a F F', (∀ w, F' w → F w) → Z a F → Z a F') (hfin : ∀ a F, Z a F → ∀ w, F w → C w → ∃ om, ops[m]? = some om ∧ Region.wanted om (yielded ops a.tmps) = true ∧ Oper.wp P om a w (fun a' w' => Q .normal a' w') Q)
  (hns : Region.noSelect ops = true) (hsz : ops.size = m + 1) (hlast : lastLo ops m = true) (hback : backLo ops = true) (hCB : ∀ w, C w → B ≤ w.heap.size) (hCS : ∀ w w', C w → Stp w w' → C w') :
  ∀ (fuel : Nat) (l : List (Nat × LK)) (listed : Array Bool) (a : Act) (w : World) (F : World → Prop), l.length + 1 ≤ fuel → LoInv ops m l listed → goodLo ops [] l = true → pairsLo ops l = true → (∀ w w', F w → Stp w w' → F w') → F w → C w → wpLo P ops C B le vq Z l a F → wpAny P .any ops Q fuel listed a w := by
 intro fuel
 induction fuel with
 | zero => intro l listed a w F h; omega
 | succ fuel ih =>
  intro l listed a w F hf hI hg hp hst hF hC hw
  have hsel := Region.noSelect_spec hns
  refine ⟨fun hr => ?_, fun i hi => ?_⟩
  ·exfalso
   cases l with
   | nil =>
    have hm : m ∈ Region.ready .any ops listed := by
     have hms : m < ops.size := by omega
     refine mem_ready.2 ⟨hI.last, ops[m], Array.getElem?_eq_getElem hms, fun e he hb => ?_⟩
     have hlt := back_at hback (Array.getElem?_eq_getElem hms) e he hb
     have h1 := (hI.mem e.on hlt)
     rcases Bool.eq_false_or_eq_true (listed.getD e.on false) with h2 | h2
     ·exact h2
     ·exfalso
      have := h1.1 ((getD_two (by rw [hI.size]; omega)).2 (by simp [h2]))
      simp at this
    rw [hr] at hm
    cases hm
   | cons x l =>
    obtain ⟨j, k⟩ := x
    have hjm : j < m := hI.lt (j, k) (by simp)
    have hj : j ∈ Region.ready .any ops listed := by
     have hjs : j < ops.size := by omega
     refine mem_ready.2 ⟨(hI.mem j hjm).2 (by simp), ops[j], Array.getElem?_eq_getElem hjs, fun e he hb => ?_⟩
     have hlt := back_at hback (Array.getElem?_eq_getElem hjs) e he hb
     have h1 := (hI.mem e.on (by omega))
     rcases Bool.eq_false_or_eq_true (listed.getD e.on false) with h2 | h2
     ·exact h2
     ·exfalso
      have h3 := h1.1 ((getD_two (by rw [hI.size]; omega)).2 (by simp [h2]))
      obtain ⟨y, hy, e2⟩ := List.mem_map.1 h3
      rcases List.mem_cons.1 hy with rfl | hy
      ·simp only at e2; omega
      ·have := (List.pairwise_cons.1 hI.sorted).1 y hy
       simp only at this e2
       omega
    rw [hr] at hj
    cases hj
  ·obtain ⟨h0, o, ho, hall⟩ := mem_ready.1 hi
   have hil : ∀ y, listed.getD y false = true → y < m → y ∉ l.map (·.1) := fun y hy hym hmem => by
    have h1 := (hI.mem y hym).2 hmem
    have h2 : y < listed.size := by rw [hI.size]; omega
    rw [getD_two h2] at h1
    exact h1 hy
   have his : i < ops.size := (Array.getElem?_eq_some_iff.1 ho).1
   rcases Nat.lt_or_ge i m with him | him
   ·-- one of l
    have hmem := (hI.mem i him).1 h0
    obtain ⟨x, hx, ex⟩ := List.mem_map.1 hmem
    obtain ⟨l1, l2, rfl⟩ := List.append_of_mem hx
    obtain ⟨i', k⟩ := x
    simp only at ex
    subst ex
    have hanc : ∀ y ∈ anc ops 3 i', listed.getD y false = true := anc_listed hI.down 3 i' (fun o' ho' e he hb => by obtain rfl := Option.some.inj (ho.symm.trans ho'); exact hall e he hb)
    have hI2 := hI.next hi
    have hp2 := pairsLo_drop _ l1 hp
    have hlen : (l1 ++ l2).length + 1 ≤ fuel := by simp only [List.length_append, List.length_cons] at hf ⊢; omega
    cases k with
    | chain =>
     have hl1 : l1 = [] := by
      cases l1 with
      | nil => rfl
      | cons z l1 =>
       exfalso
       obtain ⟨jz, kz⟩ := z
       have : ∃ y, (y ∈ [jz] ∨ y ∈ l1.map (·.1)) ∧ y ∈ anc ops 3 i' := by
        cases kz with
        | chain =>
         simp only [List.cons_append, goodLo, Bool.and_eq_true] at hg
         exact goodLo_waits l1 l2 [jz] (by simp) hg.2
        | quiet => exact goodLo_waits l1 l2 [jz] (by simp) hg
        | lit => exact goodLo_waits l1 l2 [jz] (by simp) hg
       obtain ⟨y, hy, ha⟩ := this
       have hmemy : y ∈ ((jz, kz) :: l1 ++ (i', LK.chain) :: l2).map (·.1) := by
        rcases hy with hy | hy
        ·simp only [List.mem_singleton] at hy; subst hy; simp
        ·simp only [List.cons_append, List.map_cons, List.map_append, List.mem_cons, List.mem_append]; exact .inr (.inl hy)
       obtain ⟨z, hz, ez⟩ := List.mem_map.1 hmemy
       exact hil y (hanc y ha) (by have := hI.lt z hz; omega) hmemy
     subst hl1
     obtain ⟨o', e1, e2, ι, y0, val, G, h3, h4, h5⟩ := hw
     obtain rfl := Option.some.inj (ho.symm.trans e1)
     unfold wpOp
     simp only [ho, e2, if_true]
     refine .inl ((h4 w hF hC).wp (fun v w' hpost => ?_))
     obtain ⟨y, rfl, hS, hG⟩ := hpost
     exact ih l2 _ _ w' _ (by simpa using hlen) hI2 (goodLo_tail hg) hp2 (fun w1 w2 h12 hs => ⟨hst _ _ h12.1 hs, h3 _ _ _ h12.2 hs⟩) ⟨hst _ _ hF hS, hG⟩ (hCS _ _ hC hS) (h5 y)
    | quiet =>
     have hap : ∀ x ∈ l1, ∀ ox, ops[x.1]? = some ox → o.apart ops ox = true := fun x hx ox hox => by
      have h1 := pairsLo_at l2 l1 hp x hx
      unfold pairLo at h1
      rw [ho, hox] at h1
      simp only [Bool.or_eq_true, decide_eq_true_eq] at h1
      rcases h1 with (h1 | h1) | h1
      ·cases h1
      ·exfalso
       exact hil x.1 (hanc x.1 (by simpa using h1)) (hI.lt x (List.mem_append_left _ hx)) (List.mem_map_of_mem (List.mem_append_left _ hx))
      ·exact h1
     obtain ⟨o', e1, e2, e3, e4⟩ := wpLo_move hZ hsel ho (by decide) l2 l1 a F hap hw
     obtain rfl := Option.some.inj (ho.symm.trans e1)
     unfold wpOp
     simp only [ho, e2, if_true]
     refine .inl ?_
     unfold Oper.wp
     rw [e3 w hC]
     exact ih _ _ _ w F hlen hI2 (goodLo_drop (by decide) l2 l1 [] hg) hp2 hst hF hC e4
    | lit =>
     have hap : ∀ x ∈ l1, ∀ ox, ops[x.1]? = some ox → o.apart ops ox = true := fun x hx ox hox => by
      have h1 := pairsLo_at l2 l1 hp x hx
      unfold pairLo at h1
      rw [ho, hox] at h1
      simp only [Bool.or_eq_true, decide_eq_true_eq] at h1
      rcases h1 with (h1 | h1) | h1
      ·cases h1
      ·exfalso
       exact hil x.1 (hanc x.1 (by simpa using h1)) (hI.lt x (List.mem_append_left _ hx)) (List.mem_map_of_mem (List.mem_append_left _ hx))
      ·exact h1
     obtain ⟨o', e1, e2, e3, e4⟩ := wpLo_move hZ hsel ho (by decide) l2 l1 a F hap hw
     obtain rfl := Option.some.inj (ho.symm.trans e1)
     unfold wpOp
     simp only [ho, e2, if_true]
     refine .inl ?_
     unfold Oper.wp
     rw [e3 w]
     have hS : Stp w (w.alloc (.cells #[] (le i'))) := ⟨bw_alloc _ (bw_refl w)⟩
     exact ih _ _ _ _ _ hlen hI2 (goodLo_drop (by decide) l2 l1 [] hg) hp2 (fun w1 w2 h12 hs => ⟨hst _ _ h12.1 hs, lit_stp hs h12.2⟩) ⟨hst _ _ hF hS, lit_new rfl⟩ (hCS _ _ hC hS) (e4 w.heap.size (hCB w hC))
   ·-- the last
    obtain rfl : i = m := by omega
    have hl : l = [] := by
     cases l with
     | nil => rfl
     | cons x l =>
      exfalso
      have hx := hI.lt x (by simp)
      unfold lastLo at hlast
      rw [ho] at hlast
      simp only [List.all_eq_true, List.mem_range] at hlast
      have h1 := hlast x.1 hx
      obtain ⟨ei, hei, h2⟩ := Array.any_eq_true.1 h1
      rw [Bool.and_eq_true, decide_eq_true_eq] at h2
      exact hil x.1 (by rw [← h2.2]; exact hall _ (Array.getElem_mem hei) h2.1) hx (by simp)
    subst hl
    obtain ⟨om, e1, e2, e3⟩ := hfin a F hw w hF hC
    obtain rfl := Option.some.inj (ho.symm.trans e1)
    unfold wpOp
    simp only [ho, e2, if_true]
    refine .inl (Oper.wp_mono (fun a' w' hq => lo_done ?_ hq fuel) e3)
    rw [List.eq_nil_iff_forall_not_mem]
    intro j hj
    obtain ⟨h1, oj, hoj, _⟩ := mem_ready.1 hj
    have hjs : j < ops.size := (Array.getElem?_eq_some_iff.1 hoj).1
    by_cases e : i = j
    ·subst e
     have : i < listed.size := by rw [hI.size]; exact his
     simp [this] at h1
    ·rw [getD_set_ne true e] at h1
     have := (hI.mem j (by omega)).1 h1
     simp at this
def lastZ (P : Program) (ops : Array Oper) (C : World → Prop) (Q : Exit → Act → World → Prop) (m : Nat) (a : Act) (F : World → Prop) : Prop := ∀ w, F w → C w → ∃ om, ops[m]? = some om ∧ Region.wanted om (yielded ops a.tmps) = true ∧ Oper.wp P om a w (fun a' w' => Q .normal a' w') Q
theorem wp_region_lo {Q : Exit → Act → World → Prop} {id : Nat} {a : Act} {w : World} (B : Nat) (C : World → Prop) (le : Nat → TypeId) (vq : Nat → Value) (m : Nat) (l : List (Nat × LK)) (hm : P.follows .mixedOrders = true)
    (hns : Region.noSelect ops = true) (hsz : ops.size = m + 1) (hl : l.map (·.1) = List.range m) (hlast : lastLo ops m = true) (hback : backLo ops = true) (hg : goodLo ops [] l = true) (hp : pairsLo ops l = true) (hCB : ∀ w, C w → B ≤ w.heap.size) (hCS : ∀ w w', C w → Stp w w' → C w') (hC : C w.drew)
    (h : wpLo P ops C B le vq (lastZ P ops C Q m) l a (fun _ => True)) : (Code.region id ops true).wp P Q a w := by
  refine wp_region_any hm ?_
  have hlen : l.length = m := by have := congrArg List.length hl; simpa using this
  refine lo_sound (P := P) (C := C) (B := B) (le := le) (vq := vq) (Z := lastZ P ops C Q m) (m := m) (fun a F F' hF hz w hw hc => hz w (hF w hw) hc) (fun a F hz w hF hc => hz w hF hc) hns hsz hlast hback hCB hCS ops.size l _ a _ (fun _ => True) (by omega) ⟨by simp, fun i hi => ?_, fun x hx => ?_, ?_, fun j oj hoj hj => ?_, ?_⟩ hg hp (fun _ _ _ _ => trivial) trivial hC h
  · have hi2 : i < ops.size := by omega
    rw [hl]
    simp [hi2, hi]
  · have : x.1 ∈ l.map (·.1) := List.mem_map_of_mem hx
    rw [hl] at this
    simpa using this
  · have : m < ops.size := by omega
    simp [this]
  · exfalso
    by_cases h1 : j < ops.size
    · simp [h1] at hj
    · simp [h1] at hj
  · have h1 : (l.map (·.1)).Pairwise (· < ·) := by rw [hl]; exact List.pairwise_lt_range
    rwa [List.pairwise_map] at h1
theorem LoOp.enter {o : Oper} {a : Act} {w : World} {post : Value → World → Prop} {f : FuncId} {args : Array Value} (hr : (execOp a.eval o).run P w = .ok (.enter f args) w) (h : Calls P f args w fun e w' => ∃ v, e = .returned v ∧ post v w') : LoOp P o a w post := by
  unfold LoOp
  rw [hr]
  exact h
theorem LoOp.val {o : Oper} {a : Act} {w w1 : World} {post : Value → World → Prop} {v : Value} (hr : (execOp a.eval o).run P w = .ok (.value v) w1) (h : post v w1) : LoOp P o a w post := by
  unfold LoOp
  rw [hr]
  exact h
theorem LoOp.skip {o : Oper} {a : Act} {w w1 : World} {post : Value → World → Prop} (hd : o.dst = none) (hr : (execOp a.eval o).run P w = .ok .skip w1) (h : post undef w1) : LoOp P o a w post := by
  unfold LoOp
  rw [hr]
  exact ⟨hd, h⟩
theorem run_append_op {o : Oper} {a : Act} {s x : Operand} {t : TypeId} {v sv xv : Value} {W W1 : World} (ho : o.op = .call { callee := .builtin .append, args := #[s, x], argTypes := #[t, t] }) (hs : a.eval s = sv) (hx : a.eval x = xv) (hr : (Builtin.append_ #[t, t] o.type #[sv, xv]).run P W = .ok v W1) : (execOp a.eval o).run P W = .ok (.value v) W1 := by
  unfold execOp
  simp only [ho, resolve, invoke, builtin, Sem.run_bind, Sem.run_pure, Result.andThen_ok, List.map_toArray, List.map_cons, List.map_nil, hs, hx, hr]
end
end Go.Proofs.YtmkbmddgkdoaiaaGreat
namespace Go.Proofs.YtmkbmddgkdoaiaaGreat
open Go.RowKit Go.Proofs.YtmkbmddgkdoaiaaGreatW.PrintWords
open NoC
def GotNX (w w' : World) (n : Net) (e : Ending) : Prop := ∃ q v4 v7 v8, e = .returned (.agg (netCells n q)) ∧ NX w' w.heap.size n q v4 v7 v8
theorem own_within {w : World} {base e sz n : Nat} {v : Value} {xs : List Value} (h : w.ownsRow base e sz v n xs) : Within v base w.heap.size := fun k hk => ⟨own_base h k hk, own_lt h k hk⟩
theorem FR.append {w : World} {lo : Nat} {vs us : List Value} {l m : List (List Flit)} (h : FR w lo vs l) (k : FR w lo us m) (ha : ∀ i j : Nat, i < l.length → j < m.length → Apart (vr vs i) (vr us j)) : FR w lo (vs ++ us) (l ++ m) := by
  have hl := h.len
  have e1 : ∀ i : Nat, i < l.length → vr (vs ++ us) i = vr vs i := fun i hi => vr_left (by omega)
  have e2 : ∀ i : Nat, vr (vs ++ us) (l.length + i) = vr us i := fun i => by rw [← hl]; exact vr_right
  refine ⟨by simp [hl, k.len], fun i hi => ?_, fun i j hij hj => ?_⟩
  · rw [List.length_append] at hi
    by_cases e : i < l.length
    · rw [e1 i e, rl_left e]
      exact h.row i e
    · obtain ⟨d, rfl⟩ : ∃ d, i = l.length + d := ⟨i - l.length, by omega⟩
      rw [e2, rl_right]
      exact k.row d (by omega)
  · rw [List.length_append] at hj
    by_cases e : j < l.length
    · rw [e1 i (by omega), e1 j e]
      exact h.ap i j hij e
    · obtain ⟨d, rfl⟩ : ∃ d, j = l.length + d := ⟨j - l.length, by omega⟩
      rw [e2]
      by_cases e3 : i < l.length
      · rw [e1 i e3]
        exact ha i d e3 (by omega)
      · obtain ⟨c, rfl⟩ : ∃ c, i = l.length + c := ⟨i - l.length, by omega⟩
        rw [e2]
        exact k.ap c d (by omega) (by omega)
theorem FR.set {w : World} {lo : Nat} {vs : List Value} {l : List (List Flit)} (h : FR w lo vs l) {g : Nat} (hg : g < lo) (j : Nat) (u : Value) : FR (w.setCell ⟨g, j, none⟩ u) lo vs l :=
  ⟨h.len, fun i hi => R_off (h.row i hi) hg j u, h.ap⟩
theorem all5 {v0 v1 v2 v3 v4 : Value} (h01 : Ap0 v0 v1) (h02 : Ap0 v0 v2) (h03 : Ap0 v0 v3) (h04 : Ap0 v0 v4) (h12 : Ap0 v1 v2) (h13 : Ap0 v1 v3) (h14 : Ap0 v1 v4) (h23 : Ap0 v2 v3) (h24 : Ap0 v2 v4) (h34 : Ap0 v3 v4) : AllAp0 5 [v0, v1, v2, v3, v4] := by
  intro i j hij hj
  rcases (by omega : j = 1 ∨ j = 2 ∨ j = 3 ∨ j = 4) with rfl | rfl | rfl | rfl
  · obtain rfl : i = 0 := by omega
    exact h01
  · rcases (by omega : i = 0 ∨ i = 1) with rfl | rfl
    · exact h02
    · exact h12
  · rcases (by omega : i = 0 ∨ i = 1 ∨ i = 2) with rfl | rfl | rfl
    · exact h03
    · exact h13
    · exact h23
  · rcases (by omega : i = 0 ∨ i = 1 ∨ i = 2 ∨ i = 3) with rfl | rfl | rfl | rfl
    · exact h04
    · exact h14
    · exact h24
    · exact h34
theorem all3 {v0 v1 v2 : Value} (h01 : Apart v0 v1) (h02 : Apart v0 v2) (h12 : Apart v1 v2) : AllAp 3 [v0, v1, v2] := by
  intro i j hij hj
  rcases (by omega : j = 1 ∨ j = 2) with rfl | rfl
  · obtain rfl : i = 0 := by omega
    exact h01
  · rcases (by omega : i = 0 ∨ i = 1) with rfl | rfl
    · exact h02
    · exact h12
theorem NX.off {w : World} {lo : Nat} {n : Net} {q : NA} {v4 v7 v8 : List Value} (h : NX w lo n q v4 v7 v8) {g : Nat} (hg : g < lo) (j : Nat) (u : Value) : NX (w.setCell ⟨g, j, none⟩ u) lo n q v4 v7 v8 := by
  have ne : ∀ {e m : Nat} {v : Value} {xs : List Value}, w.ownsRow lo e 1 v m xs → some g ≠ v.ownBlock := fun ho e => by
    have := own_base ho g e.symm
    omega
  exact ⟨R_off h.br hg j u, R_off h.pa hg j u, R_off h.pb hg j u, R_off h.owners hg j u, R_off h.turns hg j u, own_setCell h.bufs (p := ⟨g, j, none⟩) (ne h.bufs) u, own_setCell h.srcs (p := ⟨g, j, none⟩) (ne h.srcs) u, own_setCell h.arrs (p := ⟨g, j, none⟩) (ne h.arrs) u, h.rows.set hg j u, h.apI, h.apO⟩
structure OXU (w : World) (lo hi : Nat) (v : Value) (l : List (List Flit)) (vs : List Value) : Prop where
  own : w.ownsRow lo 108 1 v l.length vs
  top : Within v lo hi
  rows : FR w lo vs l
  wit : ∀ i : Nat, i < l.length → Within (vr vs i) lo hi
theorem OXU.stp {w w1 : World} {lo hi : Nat} {v : Value} {l : List (List Flit)} {vs : List Value} (h : OXU w lo hi v l vs) (hs : Stp w w1) : OXU w1 lo hi v l vs := ⟨pw_own_below h.own hs.h, h.top, h.rows.below hs.h, h.wit⟩
structure PX where
  A : Option Addr
  c : Nat
  A2 : Option Addr
  c2 : Nat
  vs : List Value
  lo : Nat
  hi : Nat
def PX.mk0 (A : Option Addr) (c lo hi : Nat) : PX := ⟨A, c, none, 0, [], lo, hi⟩
def gI (p : Nat) (y : PX) (xs : List Int) (w : World) : Prop := p ≤ y.lo ∧ y.lo ≤ y.hi ∧ y.hi ≤ w.heap.size ∧ RU (Kd.int .i64) 3 w y.lo y.hi (.slice y.A xs.length y.c) xs
def gC (p : Nat) (y : PX) (xs ys : List Int) (w : World) : Prop := p ≤ y.lo ∧ y.lo ≤ y.hi ∧ y.hi ≤ w.heap.size ∧ RU (Kd.int .i64) 3 w y.lo y.hi (.slice y.A xs.length y.c) xs ∧ RU (Kd.int .i64) 3 w y.lo y.hi (.slice y.A2 ys.length y.c2) ys ∧ Apart (.slice y.A xs.length y.c) (.slice y.A2 ys.length y.c2)
def gL (p : Nat) (y : PX) (l : List (List Flit)) (w : World) : Prop := p ≤ y.lo ∧ y.lo ≤ y.hi ∧ y.hi ≤ w.heap.size ∧ OXU w y.lo y.hi (.slice y.A l.length y.c) l y.vs
def gA (B p : Nat) (y : PX) (xs : List Int) (w : World) : Prop := p ≤ y.lo ∧ y.lo ≤ y.hi ∧ y.hi ≤ w.heap.size ∧ Kd.R (Kd.int .i64) 3 w B (fun _ => True) (.slice y.A xs.length y.c) xs ∧ (xs.length = 0 ∨ Within (.slice y.A xs.length y.c) y.lo y.hi)
theorem gI.stp {p : Nat} {y : PX} {xs : List Int} {w w1 : World} (h : gI p y xs w) (hs : Stp w w1) : gI p y xs w1 := ⟨h.1, h.2.1, Nat.le_trans h.2.2.1 hs.h.size, h.2.2.2.below hs.h⟩
theorem gC.stp {p : Nat} {y : PX} {xs ys : List Int} {w w1 : World} (h : gC p y xs ys w) (hs : Stp w w1) : gC p y xs ys w1 := ⟨h.1, h.2.1, Nat.le_trans h.2.2.1 hs.h.size, h.2.2.2.1.below hs.h, h.2.2.2.2.1.below hs.h, h.2.2.2.2.2⟩
theorem gL.stp {p : Nat} {y : PX} {l : List (List Flit)} {w w1 : World} (h : gL p y l w) (hs : Stp w w1) : gL p y l w1 := ⟨h.1, h.2.1, Nat.le_trans h.2.2.1 hs.h.size, h.2.2.2.stp hs⟩
theorem gA.stp {B p : Nat} {y : PX} {xs : List Int} {w w1 : World} (h : gA B p y xs w) (hs : Stp w w1) : gA B p y xs w1 := ⟨h.1, h.2.1, Nat.le_trans h.2.2.1 hs.h.size, Kd.R_below h.2.2.2.1 hs.h, h.2.2.2.2⟩
theorem ap0_of {u v : Value} (h : Apart u v) : Ap0 u v := .inr (.inr h)
theorem NX.parts {w : World} {B : Nat} {n : Net} {ym yc yb yo yt ys ya : PX} (hm : gI B ym n.mesh.br w) (hc : gC ym.hi yc n.pa n.pb w) (hb : gL yc.hi yb n.bufs w) (ho : gA B yb.hi yo n.owners w) (ht : gA B yo.hi yt n.turns w) (hs : gL yt.hi ys n.srcs w) (ha : gL ys.hi ya n.arrs w) :
    NX w B n ⟨ym.A, yc.A, yc.A2, yb.A, yo.A, yt.A, ys.A, ya.A, ym.c, yc.c, yc.c2, yb.c, yo.c, yt.c, ys.c, ya.c⟩ yb.vs ys.vs ya.vs := by
  obtain ⟨m1, m2, m3, m4⟩ := hm
  obtain ⟨c1, c2, c3, c4, c5, c6⟩ := hc
  obtain ⟨b1, b2, b3, b4⟩ := hb
  obtain ⟨o1, o2, o3, o4, o5⟩ := ho
  obtain ⟨t1, t2, t3, t4, t5⟩ := ht
  obtain ⟨s1, s2, s3, s4⟩ := hs
  obtain ⟨a1, a2, a3, a4⟩ := ha
  have hW : ∀ {v : Value} {p q r s : Nat} {u : Value} {k : Nat}, Within u p q → (k = 0 ∨ Within v r s) → q ≤ r → vlen v = k → Ap0 u v := fun h1 h2 h3 h4 => by
    rcases h2 with h2 | h2
    · exact .inr (.inl (h4.trans h2))
    · exact .inr (.inr (apart_lt h1 h2 h3))
  refine ⟨Kd.R_lower m4.row m1, Kd.R_lower c4.row (by omega), Kd.R_lower c5.row (by omega), o4, t4, own_weaken b4.own (by omega), own_weaken s4.own (by omega), own_weaken a4.own (by omega), ?_, ?_, ?_⟩
  · refine (b4.rows.lower (by omega)).append ((s4.rows.lower (by omega)).append (a4.rows.lower (by omega)) (fun i j hi hj => apart_lt (s4.wit i hi) (a4.wit j hj) a1)) (fun i j hi hj => ?_)
    rw [List.length_append] at hj
    by_cases e : j < n.srcs.length
    · rw [vr_left (by rw [s4.rows.len]; exact e)]
      exact apart_lt (b4.wit i hi) (s4.wit j e) (by omega)
    · obtain ⟨d, rfl⟩ : ∃ d, j = n.srcs.length + d := ⟨j - n.srcs.length, by omega⟩
      rw [← s4.rows.len, vr_right]
      exact apart_lt (b4.wit i hi) (a4.wit d (by omega)) (by omega)
  · refine all5 (ap0_of (apart_lt m4.within c4.within c1)) (ap0_of (apart_lt m4.within c5.within c1)) (hW m4.within o5 (by omega) rfl) (hW m4.within t5 (by omega) rfl) (ap0_of c6) (hW c4.within o5 (by omega) rfl) (hW c4.within t5 (by omega) rfl) (hW c5.within o5 (by omega) rfl) (hW c5.within t5 (by omega) rfl) ?_
    rcases o5 with o5 | o5
    · exact .inl o5
    · exact hW o5 t5 (by omega) rfl
  · exact all3 (apart_lt b4.top s4.top (by omega)) (apart_lt b4.top a4.top (by omega)) (apart_lt s4.top a4.top (by omega))
theorem gA.of {B p g : Nat} {w w1 : World} {v1 : Value} {A : Option Addr} {c : Nat} {xs : List Int} (hp : p ≤ w.heap.size) (hr : Kd.R (Kd.int .i64) 3 w1 B (fun _ => True) v1 xs) (hv : v1 = .slice A xs.length c) (hb : Below w.heap.size w w1) (ha : At2 g w.heap.size w1.heap.size v1) (hg : g < w.heap.size) (hL : Lit 3 w g) : gA B p (PX.mk0 A c w.heap.size w1.heap.size) xs w1 := by
  subst hv
  refine ⟨hp, hb.size, Nat.le_refl _, hr, ?_⟩
  by_cases h0 : xs.length = 0
  · exact .inl h0
  · right
    intro k hk
    rcases ha k hk with e | e
    · exfalso
      subst e
      obtain ⟨inner, hin⟩ := Kd.R_own hr
      obtain ⟨g', cap, e1, h1, h2⟩ := hin.form (by omega)
      have hk2 : (Value.slice A xs.length c).ownBlock = some k := hk
      rw [e1] at hk2
      have e2 : g' = k := Option.some.inj hk2
      subst e2
      rcases hin.2 with ⟨_, e3⟩ | ⟨g'', cap', cur, e3, h4, h5, h6, h7, h8, h9⟩
      · omega
      · rw [e1] at e3
        injection e3 with e4 e5 e6
        injection e4 with e4
        injection e4 with e4
        subst e4
        have hc2 := hb.block g' hg
        rw [h5] at hc2
        unfold Lit at hL
        rw [hL] at hc2
        have hc3 := Obj.cells.inj (Option.some.inj hc2)
        rw [hc3.1] at h8
        have h11 : (0 : Nat) = cap' * 1 := h8
        omega
    · exact e
set_option maxHeartbeats 8000000 in
set_option maxRecDepth 100000 in
theorem impl_copyNet (n : Net) (q : NA) (w : World) (hr : NetR 121 w n q) : Calls Tryz.prog 61 #[.agg (netCells n q)] w fun e w' => GotNX w w' n e ∧ Below w.heap.size w w' := by
 have R := Lib.hid hr
 clear hr
 obtain ⟨a1, a2, a3, a4, a5, a6, a7, a8, c1, c2, c3, c4, c5, c6, c7, c8⟩ := q
 dsimp only [netCells]
 have hX : ∀ W, Stp ((w.alloc (.cells #[.int .i64 n.mesh.g.w, .int .i64 n.mesh.g.h, .slice a1 n.mesh.br.length c1, .slice a2 n.pa.length c2, .slice a3 n.pb.length c3, .slice a4 n.bufs.length c4, .slice a5 n.owners.length c5, .slice a6 n.turns.length c6, .slice a7 n.srcs.length c7, .slice a8 n.arrs.length c8, .int .i64 n.time] 44)).alloc (.cells #[.int .i64 0, .int .i64 0, .slice none 0 0, .slice none 0 0, .slice none 0 0, .slice none 0 0, .slice none 0 0, .slice none 0 0, .slice none 0 0, .slice none 0 0, .int .i64 0] 44)) W → W.cell? ⟨w.heap.size, 0, none⟩ = some (.int .i64 n.mesh.g.w) ∧ W.cell? ⟨w.heap.size, 1, none⟩ = some (.int .i64 n.mesh.g.h) ∧ W.cell? ⟨w.heap.size, 2, none⟩ = some (.slice a1 n.mesh.br.length c1) ∧ W.cell? ⟨w.heap.size, 3, none⟩ = some (.slice a2 n.pa.length c2) ∧ W.cell? ⟨w.heap.size, 4, none⟩ = some (.slice a3 n.pb.length c3) ∧ W.cell? ⟨w.heap.size, 5, none⟩ = some (.slice a4 n.bufs.length c4) ∧ W.cell? ⟨w.heap.size, 6, none⟩ = some (.slice a5 n.owners.length c5) ∧ W.cell? ⟨w.heap.size, 7, none⟩ = some (.slice a6 n.turns.length c6) ∧ W.cell? ⟨w.heap.size, 8, none⟩ = some (.slice a7 n.srcs.length c7) ∧ W.cell? ⟨w.heap.size, 9, none⟩ = some (.slice a8 n.arrs.length c8) ∧ W.cell? ⟨w.heap.size, 10, none⟩ = some (.int .i64 n.time) := by
  intro W hW
  have hb := ((Box.new w w.heap.size #[.int .i64 n.mesh.g.w, .int .i64 n.mesh.g.h, .slice a1 n.mesh.br.length c1, .slice a2 n.pa.length c2, .slice a3 n.pb.length c3, .slice a4 n.bufs.length c4, .slice a5 n.owners.length c5, .slice a6 n.turns.length c6, .slice a7 n.srcs.length c7, .slice a8 n.arrs.length c8, .int .i64 n.time] 44 rfl).alloc (.cells #[.int .i64 0, .int .i64 0, .slice none 0 0, .slice none 0 0, .slice none 0 0, .slice none 0 0, .slice none 0 0, .slice none 0 0, .slice none 0 0, .slice none 0 0, .int .i64 0] 44)).below hW.h
  exact ⟨hb.get 0, hb.get 1, hb.get 2, hb.get 3, hb.get 4, hb.get 5, hb.get 6, hb.get 7, hb.get 8, hb.get 9, hb.get 10⟩
 have hRW : ∀ W, Stp ((w.alloc (.cells #[.int .i64 n.mesh.g.w, .int .i64 n.mesh.g.h, .slice a1 n.mesh.br.length c1, .slice a2 n.pa.length c2, .slice a3 n.pb.length c3, .slice a4 n.bufs.length c4, .slice a5 n.owners.length c5, .slice a6 n.turns.length c6, .slice a7 n.srcs.length c7, .slice a8 n.arrs.length c8, .int .i64 n.time] 44)).alloc (.cells #[.int .i64 0, .int .i64 0, .slice none 0 0, .slice none 0 0, .slice none 0 0, .slice none 0 0, .slice none 0 0, .slice none 0 0, .slice none 0 0, .slice none 0 0, .int .i64 0] 44)) W → NetR 121 W n ⟨a1, a2, a3, a4, a5, a6, a7, a8, c1, c2, c3, c4, c5, c6, c7, c8⟩ := fun W hW => R.out.below (bw_then (bw_alloc _ (bw_alloc _ (bw_refl w))) hW.h)
 have HX := Lib.hid hX
 have HR := Lib.hid hRW
 clear hX hRW
 go_enter Tryz.func61, Tryz.ntmps61
 go_wp2_with fail
 refine wp_region_lo (((w.alloc (.cells #[.int .i64 n.mesh.g.w, .int .i64 n.mesh.g.h, .slice a1 n.mesh.br.length c1, .slice a2 n.pa.length c2, .slice a3 n.pb.length c3, .slice a4 n.bufs.length c4, .slice a5 n.owners.length c5, .slice a6 n.turns.length c6, .slice a7 n.srcs.length c7, .slice a8 n.arrs.length c8, .int .i64 n.time] 44)).alloc (.cells #[.int .i64 0, .int .i64 0, .slice none 0 0, .slice none 0 0, .slice none 0 0, .slice none 0 0, .slice none 0 0, .slice none 0 0, .slice none 0 0, .slice none 0 0, .int .i64 0] 44))).heap.size (Stp (((w.alloc (.cells #[.int .i64 n.mesh.g.w, .int .i64 n.mesh.g.h, .slice a1 n.mesh.br.length c1, .slice a2 n.pa.length c2, .slice a3 n.pb.length c3, .slice a4 n.bufs.length c4, .slice a5 n.owners.length c5, .slice a6 n.turns.length c6, .slice a7 n.srcs.length c7, .slice a8 n.arrs.length c8, .int .i64 n.time] 44)).alloc (.cells #[.int .i64 0, .int .i64 0, .slice none 0 0, .slice none 0 0, .slice none 0 0, .slice none 0 0, .slice none 0 0, .slice none 0 0, .slice none 0 0, .slice none 0 0, .int .i64 0] 44)))) (fun _ => 3) (fun i => [.pointer (some ⟨w.heap.size, 0, none⟩), .agg #[.int .i64 n.mesh.g.w, .int .i64 n.mesh.g.h, .slice a1 n.mesh.br.length c1], .int .i64 0, .pointer (some ⟨w.heap.size, 3, none⟩), .agg #[.slice a2 n.pa.length c2, .slice a3 n.pb.length c3], .int .i64 0, .pointer (some ⟨w.heap.size, 5, none⟩), .slice a4 n.bufs.length c4, .int .i64 0, .int .i64 0, .pointer (some ⟨w.heap.size, 6, none⟩), .slice a5 n.owners.length c5, .int .i64 0, .int .i64 0, .pointer (some ⟨w.heap.size, 7, none⟩), .slice a6 n.turns.length c6, .int .i64 0, .pointer (some ⟨w.heap.size, 8, none⟩), .slice a7 n.srcs.length c7, .int .i64 0, .pointer (some ⟨w.heap.size, 9, none⟩), .slice a8 n.arrs.length c8, .int .i64 0, .pointer (some ⟨w.heap.size, 10, none⟩), .int .i64 n.time, .int .i64 0].getD i undef) 26 [(0, .quiet), (1, .quiet), (2, .chain), (3, .quiet), (4, .quiet), (5, .chain), (6, .quiet), (7, .quiet), (8, .chain), (9, .lit), (10, .quiet), (11, .quiet), (12, .chain), (13, .lit), (14, .quiet), (15, .quiet), (16, .chain), (17, .quiet), (18, .quiet), (19, .chain), (20, .quiet), (21, .quiet), (22, .chain), (23, .quiet), (24, .quiet), (25, .chain)] (by kernel_rfl) (by kernel_rfl) (by kernel_rfl) (by kernel_rfl) (by kernel_rfl) (by kernel_rfl) (by kernel_rfl) (by kernel_rfl) (fun W h => h.h.size) (fun W W' h h' => stp_then h h') (stp_drew (stp_refl _)) ?_
 refine wpLo_q (some 3) rfl rfl (by rfl) (fun W hC => ?_) ?_
 ·obtain ⟨x0, x1, x2, x3, x4, x5, x6, x7, x8, x9, x10⟩ := HX.out W hC
  go_simp
  try rfl
 try simp only [Act.put, nms]
 refine wpLo_q (some 4) rfl rfl (by rfl) (fun W hC => ?_) ?_
 ·obtain ⟨x0, x1, x2, x3, x4, x5, x6, x7, x8, x9, x10⟩ := HX.out W hC
  go_simp
  try rfl
 try simp only [Act.put, nms]
 refine wpLo_c (some 5) rfl rfl (by rfl) (PX.mk0 none 0 0 0) (fun y => .agg #[.int .i64 n.mesh.g.w, .int .i64 n.mesh.g.h, .slice y.A n.mesh.br.length y.c]) (fun y W => gI (((w.alloc (.cells #[.int .i64 n.mesh.g.w, .int .i64 n.mesh.g.h, .slice a1 n.mesh.br.length c1, .slice a2 n.pa.length c2, .slice a3 n.pb.length c3, .slice a4 n.bufs.length c4, .slice a5 n.owners.length c5, .slice a6 n.turns.length c6, .slice a7 n.srcs.length c7, .slice a8 n.arrs.length c8, .int .i64 n.time] 44)).alloc (.cells #[.int .i64 0, .int .i64 0, .slice none 0 0, .slice none 0 0, .slice none 0 0, .slice none 0 0, .slice none 0 0, .slice none 0 0, .slice none 0 0, .slice none 0 0, .int .i64 0] 44))).heap.size y n.mesh.br W) (fun y W W' h h' => h.stp h') (fun W hF hC => ?_) (fun ym => ?_)
 ·refine LoOp.enter (by go_simp; first | done | exact ⟨rfl, rfl⟩ | rfl) ?_
  refine (impl_copyMesh n.mesh a1 c1 W (HR.out W hC).br (HR.out W hC).h1).mono ?_
  rintro e W1 ⟨hg1, hb1⟩
  obtain ⟨v, rfl, hO⟩ := hg1
  obtain ⟨A, c, rfl⟩ := Kd.R_slice hO
  exact ⟨_, rfl, PX.mk0 A c W.heap.size W1.heap.size, rfl, ⟨hb1⟩, hC.h.size, hb1.size, Nat.le_refl _, RU.of hO (Nat.le_refl _) (Nat.le_refl _)⟩
 try simp only [Act.put, nms]
 refine wpLo_q (some 6) rfl rfl (by rfl) (fun W hC => ?_) ?_
 ·obtain ⟨x0, x1, x2, x3, x4, x5, x6, x7, x8, x9, x10⟩ := HX.out W hC
  go_simp
  try rfl
 try simp only [Act.put, nms]
 refine wpLo_q (some 7) rfl rfl (by rfl) (fun W hC => ?_) ?_
 ·obtain ⟨x0, x1, x2, x3, x4, x5, x6, x7, x8, x9, x10⟩ := HX.out W hC
  go_simp
  try rfl
 try simp only [Act.put, nms]
 refine wpLo_c (some 8) rfl rfl (by rfl) (PX.mk0 none 0 0 0) (fun y => .agg #[.slice y.A n.pa.length y.c, .slice y.A2 n.pb.length y.c2]) (fun y W => gC ym.hi y n.pa n.pb W) (fun y W W' h h' => h.stp h') (fun W hF hC => ?_) (fun yc => ?_)
 ·refine LoOp.enter (by go_simp; first | done | exact ⟨rfl, rfl⟩ | rfl) ?_
  refine (impl_copyClasses n.pa n.pb a2 a3 c2 c3 W (HR.out W hC).pa (HR.out W hC).h2 (HR.out W hC).pb (HR.out W hC).h3).mono ?_
  rintro e W1 ⟨hg1, hb1⟩
  obtain ⟨va, vb, rfl, hO, hP, hap⟩ := hg1
  obtain ⟨A, c, rfl⟩ := Kd.R_slice hO
  obtain ⟨A2, c2, rfl⟩ := Kd.R_slice hP
  exact ⟨_, rfl, ⟨A, c, A2, c2, [], W.heap.size, W1.heap.size⟩, rfl, ⟨hb1⟩, hF.2.2.2.1, hb1.size, Nat.le_refl _, RU.of hO (Nat.le_refl _) (Nat.le_refl _), RU.of hP (Nat.le_refl _) (Nat.le_refl _), hap⟩
 try simp only [Act.put, nms]
 refine wpLo_q (some 9) rfl rfl (by rfl) (fun W hC => ?_) ?_
 ·obtain ⟨x0, x1, x2, x3, x4, x5, x6, x7, x8, x9, x10⟩ := HX.out W hC
  go_simp
  try rfl
 try simp only [Act.put, nms]
 refine wpLo_q (some 10) rfl rfl (by rfl) (fun W hC => ?_) ?_
 ·obtain ⟨x0, x1, x2, x3, x4, x5, x6, x7, x8, x9, x10⟩ := HX.out W hC
  go_simp
  try rfl
 try simp only [Act.put, nms]
 refine wpLo_c (some 11) rfl rfl (by rfl) (PX.mk0 none 0 0 0) (fun y => .slice y.A n.bufs.length y.c) (fun y W => gL yc.hi y n.bufs W) (fun y W W' h h' => h.stp h') (fun W hF hC => ?_) (fun yb => ?_)
 ·refine LoOp.enter (by go_simp; first | done | exact ⟨rfl, rfl⟩ | rfl) ?_
  refine (impl_copyLists n.bufs a4 c4 W (HR.out W hC).bufs (HR.out W hC).h4 (Lib.hid (HR.out W hC).h9)).mono ?_
  rintro e W1 ⟨hg1, hb1⟩
  obtain ⟨A, c, vs, rfl, hO, hP⟩ := hg1
  exact ⟨_, rfl, ⟨A, c, none, 0, vs, W.heap.size, W1.heap.size⟩, rfl, ⟨hb1⟩, hF.2.2.2.1, hb1.size, Nat.le_refl _, hO, own_within hO, hP, fun i hi => within_R (hP.row i hi)⟩
 try simp only [Act.put, nms]
 refine wpLo_l (some 12) rfl rfl (by rfl) (fun W => (by go_simp; first | done | rfl)) (fun g9 hg9 => ?_)
 try simp only [Act.put, nms]
 refine wpLo_q (some 13) rfl rfl (by rfl) (fun W hC => ?_) ?_
 ·obtain ⟨x0, x1, x2, x3, x4, x5, x6, x7, x8, x9, x10⟩ := HX.out W hC
  go_simp
  try rfl
 try simp only [Act.put, nms]
 refine wpLo_q (some 14) rfl rfl (by rfl) (fun W hC => ?_) ?_
 ·obtain ⟨x0, x1, x2, x3, x4, x5, x6, x7, x8, x9, x10⟩ := HX.out W hC
  go_simp
  try rfl
 try simp only [Act.put, nms]
 refine wpLo_c (some 15) rfl rfl (by rfl) (PX.mk0 none 0 0 0) (fun y => .slice y.A n.owners.length y.c) (fun y W => gA (((w.alloc (.cells #[.int .i64 n.mesh.g.w, .int .i64 n.mesh.g.h, .slice a1 n.mesh.br.length c1, .slice a2 n.pa.length c2, .slice a3 n.pb.length c3, .slice a4 n.bufs.length c4, .slice a5 n.owners.length c5, .slice a6 n.turns.length c6, .slice a7 n.srcs.length c7, .slice a8 n.arrs.length c8, .int .i64 n.time] 44)).alloc (.cells #[.int .i64 0, .int .i64 0, .slice none 0 0, .slice none 0 0, .slice none 0 0, .slice none 0 0, .slice none 0 0, .slice none 0 0, .slice none 0 0, .slice none 0 0, .int .i64 0] 44))).heap.size yb.hi y n.owners W) (fun y W W' h h' => h.stp h') (fun W hF hC => ?_) (fun yo => ?_)
 ·have hL := hF.2
  have hgW : g9 < W.heap.size := blk_lt hL
  obtain ⟨v1, W1, hr1, hR1, hb1, ha1⟩ := run_copy (Kd.int .i64) 24 24 3 (.int .i64 0) 8 Tryz.underlying24 info_int rfl (by decide) (by omega) KM_int K1_int g9 n.owners a5 n.owners.length c5 hL hg9 (HR.out W hC).owners hC.h.size (by have := (HR.out W hC).h5; omega)
  obtain ⟨A, c, rfl⟩ := Kd.R_slice hR1
  refine LoOp.val (v := .slice A n.owners.length c) (w1 := W1) (run_append_op rfl rfl rfl hr1) ?_
  exact ⟨PX.mk0 A c W.heap.size W1.heap.size, rfl, ⟨hb1⟩, gA.of hF.1.2.2.2.1 hR1 rfl hb1 ha1 hgW hL⟩
 try simp only [Act.put, nms]
 refine wpLo_l (some 16) rfl rfl (by rfl) (fun W => (by go_simp; first | done | rfl)) (fun g13 hg13 => ?_)
 try simp only [Act.put, nms]
 refine wpLo_q (some 17) rfl rfl (by rfl) (fun W hC => ?_) ?_
 ·obtain ⟨x0, x1, x2, x3, x4, x5, x6, x7, x8, x9, x10⟩ := HX.out W hC
  go_simp
  try rfl
 try simp only [Act.put, nms]
 refine wpLo_q (some 18) rfl rfl (by rfl) (fun W hC => ?_) ?_
 ·obtain ⟨x0, x1, x2, x3, x4, x5, x6, x7, x8, x9, x10⟩ := HX.out W hC
  go_simp
  try rfl
 try simp only [Act.put, nms]
 refine wpLo_c (some 19) rfl rfl (by rfl) (PX.mk0 none 0 0 0) (fun y => .slice y.A n.turns.length y.c) (fun y W => gA (((w.alloc (.cells #[.int .i64 n.mesh.g.w, .int .i64 n.mesh.g.h, .slice a1 n.mesh.br.length c1, .slice a2 n.pa.length c2, .slice a3 n.pb.length c3, .slice a4 n.bufs.length c4, .slice a5 n.owners.length c5, .slice a6 n.turns.length c6, .slice a7 n.srcs.length c7, .slice a8 n.arrs.length c8, .int .i64 n.time] 44)).alloc (.cells #[.int .i64 0, .int .i64 0, .slice none 0 0, .slice none 0 0, .slice none 0 0, .slice none 0 0, .slice none 0 0, .slice none 0 0, .slice none 0 0, .slice none 0 0, .int .i64 0] 44))).heap.size yo.hi y n.turns W) (fun y W W' h h' => h.stp h') (fun W hF hC => ?_) (fun yt => ?_)
 ·have hL := hF.2
  have hgW : g13 < W.heap.size := blk_lt hL
  obtain ⟨v1, W1, hr1, hR1, hb1, ha1⟩ := run_copy (Kd.int .i64) 24 24 3 (.int .i64 0) 8 Tryz.underlying24 info_int rfl (by decide) (by omega) KM_int K1_int g13 n.turns a6 n.turns.length c6 hL hg13 (HR.out W hC).turns hC.h.size (by have := (HR.out W hC).h6; omega)
  obtain ⟨A, c, rfl⟩ := Kd.R_slice hR1
  refine LoOp.val (v := .slice A n.turns.length c) (w1 := W1) (run_append_op rfl rfl rfl hr1) ?_
  exact ⟨PX.mk0 A c W.heap.size W1.heap.size, rfl, ⟨hb1⟩, gA.of hF.1.2.2.2.1 hR1 rfl hb1 ha1 hgW hL⟩
 try simp only [Act.put, nms]
 refine wpLo_q (some 20) rfl rfl (by rfl) (fun W hC => ?_) ?_
 ·obtain ⟨x0, x1, x2, x3, x4, x5, x6, x7, x8, x9, x10⟩ := HX.out W hC
  go_simp
  try rfl
 try simp only [Act.put, nms]
 refine wpLo_q (some 21) rfl rfl (by rfl) (fun W hC => ?_) ?_
 ·obtain ⟨x0, x1, x2, x3, x4, x5, x6, x7, x8, x9, x10⟩ := HX.out W hC
  go_simp
  try rfl
 try simp only [Act.put, nms]
 refine wpLo_c (some 22) rfl rfl (by rfl) (PX.mk0 none 0 0 0) (fun y => .slice y.A n.srcs.length y.c) (fun y W => gL yt.hi y n.srcs W) (fun y W W' h h' => h.stp h') (fun W hF hC => ?_) (fun ys => ?_)
 ·refine LoOp.enter (by go_simp; first | done | exact ⟨rfl, rfl⟩ | rfl) ?_
  refine (impl_copyLists n.srcs a7 c7 W (HR.out W hC).srcs (HR.out W hC).h7 (Lib.hid (HR.out W hC).h10)).mono ?_
  rintro e W1 ⟨hg1, hb1⟩
  obtain ⟨A, c, vs, rfl, hO, hP⟩ := hg1
  exact ⟨_, rfl, ⟨A, c, none, 0, vs, W.heap.size, W1.heap.size⟩, rfl, ⟨hb1⟩, hF.2.2.2.1, hb1.size, Nat.le_refl _, hO, own_within hO, hP, fun i hi => within_R (hP.row i hi)⟩
 try simp only [Act.put, nms]
 refine wpLo_q (some 23) rfl rfl (by rfl) (fun W hC => ?_) ?_
 ·obtain ⟨x0, x1, x2, x3, x4, x5, x6, x7, x8, x9, x10⟩ := HX.out W hC
  go_simp
  try rfl
 try simp only [Act.put, nms]
 refine wpLo_q (some 24) rfl rfl (by rfl) (fun W hC => ?_) ?_
 ·obtain ⟨x0, x1, x2, x3, x4, x5, x6, x7, x8, x9, x10⟩ := HX.out W hC
  go_simp
  try rfl
 try simp only [Act.put, nms]
 refine wpLo_c (some 25) rfl rfl (by rfl) (PX.mk0 none 0 0 0) (fun y => .slice y.A n.arrs.length y.c) (fun y W => gL ys.hi y n.arrs W) (fun y W W' h h' => h.stp h') (fun W hF hC => ?_) (fun ya => ?_)
 ·refine LoOp.enter (by go_simp; first | done | exact ⟨rfl, rfl⟩ | rfl) ?_
  refine (impl_copyLists n.arrs a8 c8 W (HR.out W hC).arrs (HR.out W hC).h8 (Lib.hid (HR.out W hC).h11)).mono ?_
  rintro e W1 ⟨hg1, hb1⟩
  obtain ⟨A, c, vs, rfl, hO, hP⟩ := hg1
  exact ⟨_, rfl, ⟨A, c, none, 0, vs, W.heap.size, W1.heap.size⟩, rfl, ⟨hb1⟩, hF.2.2.2.1, hb1.size, Nat.le_refl _, hO, own_within hO, hP, fun i hi => within_R (hP.row i hi)⟩
 try simp only [Act.put, nms]
 refine wpLo_q (some 26) rfl rfl (by rfl) (fun W hC => ?_) ?_
 ·obtain ⟨x0, x1, x2, x3, x4, x5, x6, x7, x8, x9, x10⟩ := HX.out W hC
  go_simp
  try rfl
 try simp only [Act.put, nms]
 refine wpLo_q (some 27) rfl rfl (by rfl) (fun W hC => ?_) ?_
 ·obtain ⟨x0, x1, x2, x3, x4, x5, x6, x7, x8, x9, x10⟩ := HX.out W hC
  go_simp
  try rfl
 try simp only [Act.put, nms]
 refine wpLo_c (some 28) rfl rfl (by rfl) () (fun _ => .agg (netCells n ⟨ym.A, yc.A, yc.A2, yb.A, yo.A, yt.A, ys.A, ya.A, ym.c, yc.c, yc.c2, yb.c, yo.c, yt.c, ys.c, ya.c⟩)) (fun _ _ => True) (fun _ _ _ _ _ => trivial) (fun W hF hC => LoOp.val (w1 := W) (by go_simp; try rfl) ⟨(), rfl, stp_refl _, trivial⟩) (fun _ => ?_)
 try simp only [Act.put, nms]
 refine wpLo_z ?_
 intro W hF hC
 obtain ⟨⟨⟨⟨⟨⟨⟨⟨⟨⟨_, hm⟩, hc⟩, hb⟩, _⟩, ho⟩, _⟩, ht⟩, hs⟩, ha⟩, _⟩ := hF
 have hN := Lib.hid (NX.parts hm hc hb ho ht hs ha)
 clear hm hc hb ho ht hs ha
 have hb1 := hC.h
 have hb2 : W.heap[w.heap.size + 1]? = some (.cells #[.int .i64 0, .int .i64 0, .slice none 0 0, .slice none 0 0, .slice none 0 0, .slice none 0 0, .slice none 0 0, .slice none 0 0, .slice none 0 0, .slice none 0 0, .int .i64 0] 44 (0, 0)) := by
  have h1 := blk_new (w.alloc (.cells #[.int .i64 n.mesh.g.w, .int .i64 n.mesh.g.h, .slice a1 n.mesh.br.length c1, .slice a2 n.pa.length c2, .slice a3 n.pb.length c3, .slice a4 n.bufs.length c4, .slice a5 n.owners.length c5, .slice a6 n.turns.length c6, .slice a7 n.srcs.length c7, .slice a8 n.arrs.length c8, .int .i64 n.time] 44)) (.cells #[.int .i64 0, .int .i64 0, .slice none 0 0, .slice none 0 0, .slice none 0 0, .slice none 0 0, .slice none 0 0, .slice none 0 0, .slice none 0 0, .slice none 0 0, .int .i64 0] 44)
  rw [World.size_alloc] at h1
  exact blk_below h1 hC.h
 have y0 : W.cell? ⟨w.heap.size + 1, 0, none⟩ = some (.int .i64 0) := blk_cell hb2 0
 have f0 : W.frozen? ⟨w.heap.size + 1, 0, none⟩ = false := blk_frozen hb2 0
 have y1 : W.cell? ⟨w.heap.size + 1, 1, none⟩ = some (.int .i64 0) := blk_cell hb2 1
 have f1 : W.frozen? ⟨w.heap.size + 1, 1, none⟩ = false := blk_frozen hb2 1
 have y2 : W.cell? ⟨w.heap.size + 1, 2, none⟩ = some (.slice none 0 0) := blk_cell hb2 2
 have f2 : W.frozen? ⟨w.heap.size + 1, 2, none⟩ = false := blk_frozen hb2 2
 have y3 : W.cell? ⟨w.heap.size + 1, 3, none⟩ = some (.slice none 0 0) := blk_cell hb2 3
 have f3 : W.frozen? ⟨w.heap.size + 1, 3, none⟩ = false := blk_frozen hb2 3
 have y4 : W.cell? ⟨w.heap.size + 1, 4, none⟩ = some (.slice none 0 0) := blk_cell hb2 4
 have f4 : W.frozen? ⟨w.heap.size + 1, 4, none⟩ = false := blk_frozen hb2 4
 have y5 : W.cell? ⟨w.heap.size + 1, 5, none⟩ = some (.slice none 0 0) := blk_cell hb2 5
 have f5 : W.frozen? ⟨w.heap.size + 1, 5, none⟩ = false := blk_frozen hb2 5
 have y6 : W.cell? ⟨w.heap.size + 1, 6, none⟩ = some (.slice none 0 0) := blk_cell hb2 6
 have f6 : W.frozen? ⟨w.heap.size + 1, 6, none⟩ = false := blk_frozen hb2 6
 have y7 : W.cell? ⟨w.heap.size + 1, 7, none⟩ = some (.slice none 0 0) := blk_cell hb2 7
 have f7 : W.frozen? ⟨w.heap.size + 1, 7, none⟩ = false := blk_frozen hb2 7
 have y8 : W.cell? ⟨w.heap.size + 1, 8, none⟩ = some (.slice none 0 0) := blk_cell hb2 8
 have f8 : W.frozen? ⟨w.heap.size + 1, 8, none⟩ = false := blk_frozen hb2 8
 have y9 : W.cell? ⟨w.heap.size + 1, 9, none⟩ = some (.slice none 0 0) := blk_cell hb2 9
 have f9 : W.frozen? ⟨w.heap.size + 1, 9, none⟩ = false := blk_frozen hb2 9
 have y10 : W.cell? ⟨w.heap.size + 1, 10, none⟩ = some (.int .i64 0) := blk_cell hb2 10
 have f10 : W.frozen? ⟨w.heap.size + 1, 10, none⟩ = false := blk_frozen hb2 10
 clear hb2
 have hz1 := bw_size hb1
 simp only [szs] at hz1
 refine ⟨_, rfl, by rfl, ?_⟩
 dsimp only [netCells]
 go_simp
 go_wp2
 exact bodyPost_ret (v := .agg (netCells n ⟨ym.A, yc.A, yc.A2, yb.A, yo.A, yt.A, ys.A, ya.A, ym.c, yc.c, yc.c2, yb.c, yo.c, yt.c, ys.c, ya.c⟩)) (by simp [results, Tryz.results61, go_sem, netCells, *]) rfl ⟨⟨_, yb.vs, ys.vs, ya.vs, rfl, (by refine NX.lower (lo := (((w.alloc (.cells #[.int .i64 n.mesh.g.w, .int .i64 n.mesh.g.h, .slice a1 n.mesh.br.length c1, .slice a2 n.pa.length c2, .slice a3 n.pb.length c3, .slice a4 n.bufs.length c4, .slice a5 n.owners.length c5, .slice a6 n.turns.length c6, .slice a7 n.srcs.length c7, .slice a8 n.arrs.length c8, .int .i64 n.time] 44)).alloc (.cells #[.int .i64 0, .int .i64 0, .slice none 0 0, .slice none 0 0, .slice none 0 0, .slice none 0 0, .slice none 0 0, .slice none 0 0, .slice none 0 0, .slice none 0 0, .int .i64 0] 44))).heap.size) ?_ (by simp only [szs]; omega); (repeat (refine NX.off ?_ (by simp only [szs]; omega) _ _)); exact hN.out)⟩, bel⟩
set_option maxHeartbeats 8000000 in
set_option maxRecDepth 100000 in
theorem spec_l15Copy (n : Net) (q : NA) (w : World) (hr : NetR 121 w n q) : Calls Tryz.prog 100 #[.agg (netCells n q)] w fun e w' => GotNX w w' n e ∧ Below w.heap.size w w' := by
 have R := Lib.hid hr
 clear hr
 obtain ⟨a1, a2, a3, a4, a5, a6, a7, a8, c1, c2, c3, c4, c5, c6, c7, c8⟩ := q
 dsimp only [netCells]
 have hX : ∀ W, Stp ((w.alloc (.cells #[.int .i64 n.mesh.g.w, .int .i64 n.mesh.g.h, .slice a1 n.mesh.br.length c1, .slice a2 n.pa.length c2, .slice a3 n.pb.length c3, .slice a4 n.bufs.length c4, .slice a5 n.owners.length c5, .slice a6 n.turns.length c6, .slice a7 n.srcs.length c7, .slice a8 n.arrs.length c8, .int .i64 n.time] 44)).alloc (.cells #[.int .i64 0, .int .i64 0, .slice none 0 0, .slice none 0 0, .slice none 0 0, .slice none 0 0, .slice none 0 0, .slice none 0 0, .slice none 0 0, .slice none 0 0, .int .i64 0] 44)) W → W.cell? ⟨w.heap.size, 0, none⟩ = some (.int .i64 n.mesh.g.w) ∧ W.cell? ⟨w.heap.size, 1, none⟩ = some (.int .i64 n.mesh.g.h) ∧ W.cell? ⟨w.heap.size, 2, none⟩ = some (.slice a1 n.mesh.br.length c1) ∧ W.cell? ⟨w.heap.size, 3, none⟩ = some (.slice a2 n.pa.length c2) ∧ W.cell? ⟨w.heap.size, 4, none⟩ = some (.slice a3 n.pb.length c3) ∧ W.cell? ⟨w.heap.size, 5, none⟩ = some (.slice a4 n.bufs.length c4) ∧ W.cell? ⟨w.heap.size, 6, none⟩ = some (.slice a5 n.owners.length c5) ∧ W.cell? ⟨w.heap.size, 7, none⟩ = some (.slice a6 n.turns.length c6) ∧ W.cell? ⟨w.heap.size, 8, none⟩ = some (.slice a7 n.srcs.length c7) ∧ W.cell? ⟨w.heap.size, 9, none⟩ = some (.slice a8 n.arrs.length c8) ∧ W.cell? ⟨w.heap.size, 10, none⟩ = some (.int .i64 n.time) := by
  intro W hW
  have hb := ((Box.new w w.heap.size #[.int .i64 n.mesh.g.w, .int .i64 n.mesh.g.h, .slice a1 n.mesh.br.length c1, .slice a2 n.pa.length c2, .slice a3 n.pb.length c3, .slice a4 n.bufs.length c4, .slice a5 n.owners.length c5, .slice a6 n.turns.length c6, .slice a7 n.srcs.length c7, .slice a8 n.arrs.length c8, .int .i64 n.time] 44 rfl).alloc (.cells #[.int .i64 0, .int .i64 0, .slice none 0 0, .slice none 0 0, .slice none 0 0, .slice none 0 0, .slice none 0 0, .slice none 0 0, .slice none 0 0, .slice none 0 0, .int .i64 0] 44)).below hW.h
  exact ⟨hb.get 0, hb.get 1, hb.get 2, hb.get 3, hb.get 4, hb.get 5, hb.get 6, hb.get 7, hb.get 8, hb.get 9, hb.get 10⟩
 have hRW : ∀ W, Stp ((w.alloc (.cells #[.int .i64 n.mesh.g.w, .int .i64 n.mesh.g.h, .slice a1 n.mesh.br.length c1, .slice a2 n.pa.length c2, .slice a3 n.pb.length c3, .slice a4 n.bufs.length c4, .slice a5 n.owners.length c5, .slice a6 n.turns.length c6, .slice a7 n.srcs.length c7, .slice a8 n.arrs.length c8, .int .i64 n.time] 44)).alloc (.cells #[.int .i64 0, .int .i64 0, .slice none 0 0, .slice none 0 0, .slice none 0 0, .slice none 0 0, .slice none 0 0, .slice none 0 0, .slice none 0 0, .slice none 0 0, .int .i64 0] 44)) W → NetR 121 W n ⟨a1, a2, a3, a4, a5, a6, a7, a8, c1, c2, c3, c4, c5, c6, c7, c8⟩ := fun W hW => R.out.below (bw_then (bw_alloc _ (bw_alloc _ (bw_refl w))) hW.h)
 have HX := Lib.hid hX
 have HR := Lib.hid hRW
 clear hX hRW
 go_enter Tryz.func100, Tryz.ntmps100
 go_wp2_with fail
 refine wp_region_lo (((w.alloc (.cells #[.int .i64 n.mesh.g.w, .int .i64 n.mesh.g.h, .slice a1 n.mesh.br.length c1, .slice a2 n.pa.length c2, .slice a3 n.pb.length c3, .slice a4 n.bufs.length c4, .slice a5 n.owners.length c5, .slice a6 n.turns.length c6, .slice a7 n.srcs.length c7, .slice a8 n.arrs.length c8, .int .i64 n.time] 44)).alloc (.cells #[.int .i64 0, .int .i64 0, .slice none 0 0, .slice none 0 0, .slice none 0 0, .slice none 0 0, .slice none 0 0, .slice none 0 0, .slice none 0 0, .slice none 0 0, .int .i64 0] 44))).heap.size (Stp (((w.alloc (.cells #[.int .i64 n.mesh.g.w, .int .i64 n.mesh.g.h, .slice a1 n.mesh.br.length c1, .slice a2 n.pa.length c2, .slice a3 n.pb.length c3, .slice a4 n.bufs.length c4, .slice a5 n.owners.length c5, .slice a6 n.turns.length c6, .slice a7 n.srcs.length c7, .slice a8 n.arrs.length c8, .int .i64 n.time] 44)).alloc (.cells #[.int .i64 0, .int .i64 0, .slice none 0 0, .slice none 0 0, .slice none 0 0, .slice none 0 0, .slice none 0 0, .slice none 0 0, .slice none 0 0, .slice none 0 0, .int .i64 0] 44)))) (fun _ => 3) (fun i => [.pointer (some ⟨w.heap.size, 0, none⟩), .agg #[.int .i64 n.mesh.g.w, .int .i64 n.mesh.g.h, .slice a1 n.mesh.br.length c1], .int .i64 0, .pointer (some ⟨w.heap.size, 3, none⟩), .agg #[.slice a2 n.pa.length c2, .slice a3 n.pb.length c3], .int .i64 0, .pointer (some ⟨w.heap.size, 5, none⟩), .slice a4 n.bufs.length c4, .int .i64 0, .int .i64 0, .pointer (some ⟨w.heap.size, 6, none⟩), .slice a5 n.owners.length c5, .int .i64 0, .int .i64 0, .pointer (some ⟨w.heap.size, 7, none⟩), .slice a6 n.turns.length c6, .int .i64 0, .pointer (some ⟨w.heap.size, 8, none⟩), .slice a7 n.srcs.length c7, .int .i64 0, .pointer (some ⟨w.heap.size, 9, none⟩), .slice a8 n.arrs.length c8, .int .i64 0, .pointer (some ⟨w.heap.size, 10, none⟩), .int .i64 n.time, .int .i64 0].getD i undef) 26 [(0, .quiet), (1, .quiet), (2, .chain), (3, .quiet), (4, .quiet), (5, .chain), (6, .quiet), (7, .quiet), (8, .chain), (9, .lit), (10, .quiet), (11, .quiet), (12, .chain), (13, .lit), (14, .quiet), (15, .quiet), (16, .chain), (17, .quiet), (18, .quiet), (19, .chain), (20, .quiet), (21, .quiet), (22, .chain), (23, .quiet), (24, .quiet), (25, .chain)] (by kernel_rfl) (by kernel_rfl) (by kernel_rfl) (by kernel_rfl) (by kernel_rfl) (by kernel_rfl) (by kernel_rfl) (by kernel_rfl) (fun W h => h.h.size) (fun W W' h h' => stp_then h h') (stp_drew (stp_refl _)) ?_
 refine wpLo_q (some 3) rfl rfl (by rfl) (fun W hC => ?_) ?_
 ·obtain ⟨x0, x1, x2, x3, x4, x5, x6, x7, x8, x9, x10⟩ := HX.out W hC
  go_simp
  try rfl
 try simp only [Act.put, nms]
 refine wpLo_q (some 4) rfl rfl (by rfl) (fun W hC => ?_) ?_
 ·obtain ⟨x0, x1, x2, x3, x4, x5, x6, x7, x8, x9, x10⟩ := HX.out W hC
  go_simp
  try rfl
 try simp only [Act.put, nms]
 refine wpLo_c (some 5) rfl rfl (by rfl) (PX.mk0 none 0 0 0) (fun y => .agg #[.int .i64 n.mesh.g.w, .int .i64 n.mesh.g.h, .slice y.A n.mesh.br.length y.c]) (fun y W => gI (((w.alloc (.cells #[.int .i64 n.mesh.g.w, .int .i64 n.mesh.g.h, .slice a1 n.mesh.br.length c1, .slice a2 n.pa.length c2, .slice a3 n.pb.length c3, .slice a4 n.bufs.length c4, .slice a5 n.owners.length c5, .slice a6 n.turns.length c6, .slice a7 n.srcs.length c7, .slice a8 n.arrs.length c8, .int .i64 n.time] 44)).alloc (.cells #[.int .i64 0, .int .i64 0, .slice none 0 0, .slice none 0 0, .slice none 0 0, .slice none 0 0, .slice none 0 0, .slice none 0 0, .slice none 0 0, .slice none 0 0, .int .i64 0] 44))).heap.size y n.mesh.br W) (fun y W W' h h' => h.stp h') (fun W hF hC => ?_) (fun ym => ?_)
 ·refine LoOp.enter (by go_simp; first | done | exact ⟨rfl, rfl⟩ | rfl) ?_
  refine (spec_l15Mesh n.mesh a1 c1 W (HR.out W hC).br (HR.out W hC).h1).mono ?_
  rintro e W1 ⟨hg1, hb1⟩
  obtain ⟨v, rfl, hO⟩ := hg1
  obtain ⟨A, c, rfl⟩ := Kd.R_slice hO
  exact ⟨_, rfl, PX.mk0 A c W.heap.size W1.heap.size, rfl, ⟨hb1⟩, hC.h.size, hb1.size, Nat.le_refl _, RU.of hO (Nat.le_refl _) (Nat.le_refl _)⟩
 try simp only [Act.put, nms]
 refine wpLo_q (some 6) rfl rfl (by rfl) (fun W hC => ?_) ?_
 ·obtain ⟨x0, x1, x2, x3, x4, x5, x6, x7, x8, x9, x10⟩ := HX.out W hC
  go_simp
  try rfl
 try simp only [Act.put, nms]
 refine wpLo_q (some 7) rfl rfl (by rfl) (fun W hC => ?_) ?_
 ·obtain ⟨x0, x1, x2, x3, x4, x5, x6, x7, x8, x9, x10⟩ := HX.out W hC
  go_simp
  try rfl
 try simp only [Act.put, nms]
 refine wpLo_c (some 8) rfl rfl (by rfl) (PX.mk0 none 0 0 0) (fun y => .agg #[.slice y.A n.pa.length y.c, .slice y.A2 n.pb.length y.c2]) (fun y W => gC ym.hi y n.pa n.pb W) (fun y W W' h h' => h.stp h') (fun W hF hC => ?_) (fun yc => ?_)
 ·refine LoOp.enter (by go_simp; first | done | exact ⟨rfl, rfl⟩ | rfl) ?_
  refine (spec_l15Classes n.pa n.pb a2 a3 c2 c3 W (HR.out W hC).pa (HR.out W hC).h2 (HR.out W hC).pb (HR.out W hC).h3).mono ?_
  rintro e W1 ⟨hg1, hb1⟩
  obtain ⟨va, vb, rfl, hO, hP, hap⟩ := hg1
  obtain ⟨A, c, rfl⟩ := Kd.R_slice hO
  obtain ⟨A2, c2, rfl⟩ := Kd.R_slice hP
  exact ⟨_, rfl, ⟨A, c, A2, c2, [], W.heap.size, W1.heap.size⟩, rfl, ⟨hb1⟩, hF.2.2.2.1, hb1.size, Nat.le_refl _, RU.of hO (Nat.le_refl _) (Nat.le_refl _), RU.of hP (Nat.le_refl _) (Nat.le_refl _), hap⟩
 try simp only [Act.put, nms]
 refine wpLo_q (some 9) rfl rfl (by rfl) (fun W hC => ?_) ?_
 ·obtain ⟨x0, x1, x2, x3, x4, x5, x6, x7, x8, x9, x10⟩ := HX.out W hC
  go_simp
  try rfl
 try simp only [Act.put, nms]
 refine wpLo_q (some 10) rfl rfl (by rfl) (fun W hC => ?_) ?_
 ·obtain ⟨x0, x1, x2, x3, x4, x5, x6, x7, x8, x9, x10⟩ := HX.out W hC
  go_simp
  try rfl
 try simp only [Act.put, nms]
 refine wpLo_c (some 11) rfl rfl (by rfl) (PX.mk0 none 0 0 0) (fun y => .slice y.A n.bufs.length y.c) (fun y W => gL yc.hi y n.bufs W) (fun y W W' h h' => h.stp h') (fun W hF hC => ?_) (fun yb => ?_)
 ·refine LoOp.enter (by go_simp; first | done | exact ⟨rfl, rfl⟩ | rfl) ?_
  refine (spec_l15Lists n.bufs a4 c4 W (HR.out W hC).bufs (HR.out W hC).h4 (Lib.hid (HR.out W hC).h9)).mono ?_
  rintro e W1 ⟨hg1, hb1⟩
  obtain ⟨A, c, vs, rfl, hO, hP⟩ := hg1
  exact ⟨_, rfl, ⟨A, c, none, 0, vs, W.heap.size, W1.heap.size⟩, rfl, ⟨hb1⟩, hF.2.2.2.1, hb1.size, Nat.le_refl _, hO, own_within hO, hP, fun i hi => within_R (hP.row i hi)⟩
 try simp only [Act.put, nms]
 refine wpLo_l (some 12) rfl rfl (by rfl) (fun W => (by go_simp; first | done | rfl)) (fun g9 hg9 => ?_)
 try simp only [Act.put, nms]
 refine wpLo_q (some 13) rfl rfl (by rfl) (fun W hC => ?_) ?_
 ·obtain ⟨x0, x1, x2, x3, x4, x5, x6, x7, x8, x9, x10⟩ := HX.out W hC
  go_simp
  try rfl
 try simp only [Act.put, nms]
 refine wpLo_q (some 14) rfl rfl (by rfl) (fun W hC => ?_) ?_
 ·obtain ⟨x0, x1, x2, x3, x4, x5, x6, x7, x8, x9, x10⟩ := HX.out W hC
  go_simp
  try rfl
 try simp only [Act.put, nms]
 refine wpLo_c (some 15) rfl rfl (by rfl) (PX.mk0 none 0 0 0) (fun y => .slice y.A n.owners.length y.c) (fun y W => gA (((w.alloc (.cells #[.int .i64 n.mesh.g.w, .int .i64 n.mesh.g.h, .slice a1 n.mesh.br.length c1, .slice a2 n.pa.length c2, .slice a3 n.pb.length c3, .slice a4 n.bufs.length c4, .slice a5 n.owners.length c5, .slice a6 n.turns.length c6, .slice a7 n.srcs.length c7, .slice a8 n.arrs.length c8, .int .i64 n.time] 44)).alloc (.cells #[.int .i64 0, .int .i64 0, .slice none 0 0, .slice none 0 0, .slice none 0 0, .slice none 0 0, .slice none 0 0, .slice none 0 0, .slice none 0 0, .slice none 0 0, .int .i64 0] 44))).heap.size yb.hi y n.owners W) (fun y W W' h h' => h.stp h') (fun W hF hC => ?_) (fun yo => ?_)
 ·have hL := hF.2
  have hgW : g9 < W.heap.size := blk_lt hL
  obtain ⟨v1, W1, hr1, hR1, hb1, ha1⟩ := run_copy (Kd.int .i64) 24 24 3 (.int .i64 0) 8 Tryz.underlying24 info_int rfl (by decide) (by omega) KM_int K1_int g9 n.owners a5 n.owners.length c5 hL hg9 (HR.out W hC).owners hC.h.size (by have := (HR.out W hC).h5; omega)
  obtain ⟨A, c, rfl⟩ := Kd.R_slice hR1
  refine LoOp.val (v := .slice A n.owners.length c) (w1 := W1) (run_append_op rfl rfl rfl hr1) ?_
  exact ⟨PX.mk0 A c W.heap.size W1.heap.size, rfl, ⟨hb1⟩, gA.of hF.1.2.2.2.1 hR1 rfl hb1 ha1 hgW hL⟩
 try simp only [Act.put, nms]
 refine wpLo_l (some 16) rfl rfl (by rfl) (fun W => (by go_simp; first | done | rfl)) (fun g13 hg13 => ?_)
 try simp only [Act.put, nms]
 refine wpLo_q (some 17) rfl rfl (by rfl) (fun W hC => ?_) ?_
 ·obtain ⟨x0, x1, x2, x3, x4, x5, x6, x7, x8, x9, x10⟩ := HX.out W hC
  go_simp
  try rfl
 try simp only [Act.put, nms]
 refine wpLo_q (some 18) rfl rfl (by rfl) (fun W hC => ?_) ?_
 ·obtain ⟨x0, x1, x2, x3, x4, x5, x6, x7, x8, x9, x10⟩ := HX.out W hC
  go_simp
  try rfl
 try simp only [Act.put, nms]
 refine wpLo_c (some 19) rfl rfl (by rfl) (PX.mk0 none 0 0 0) (fun y => .slice y.A n.turns.length y.c) (fun y W => gA (((w.alloc (.cells #[.int .i64 n.mesh.g.w, .int .i64 n.mesh.g.h, .slice a1 n.mesh.br.length c1, .slice a2 n.pa.length c2, .slice a3 n.pb.length c3, .slice a4 n.bufs.length c4, .slice a5 n.owners.length c5, .slice a6 n.turns.length c6, .slice a7 n.srcs.length c7, .slice a8 n.arrs.length c8, .int .i64 n.time] 44)).alloc (.cells #[.int .i64 0, .int .i64 0, .slice none 0 0, .slice none 0 0, .slice none 0 0, .slice none 0 0, .slice none 0 0, .slice none 0 0, .slice none 0 0, .slice none 0 0, .int .i64 0] 44))).heap.size yo.hi y n.turns W) (fun y W W' h h' => h.stp h') (fun W hF hC => ?_) (fun yt => ?_)
 ·have hL := hF.2
  have hgW : g13 < W.heap.size := blk_lt hL
  obtain ⟨v1, W1, hr1, hR1, hb1, ha1⟩ := run_copy (Kd.int .i64) 24 24 3 (.int .i64 0) 8 Tryz.underlying24 info_int rfl (by decide) (by omega) KM_int K1_int g13 n.turns a6 n.turns.length c6 hL hg13 (HR.out W hC).turns hC.h.size (by have := (HR.out W hC).h6; omega)
  obtain ⟨A, c, rfl⟩ := Kd.R_slice hR1
  refine LoOp.val (v := .slice A n.turns.length c) (w1 := W1) (run_append_op rfl rfl rfl hr1) ?_
  exact ⟨PX.mk0 A c W.heap.size W1.heap.size, rfl, ⟨hb1⟩, gA.of hF.1.2.2.2.1 hR1 rfl hb1 ha1 hgW hL⟩
 try simp only [Act.put, nms]
 refine wpLo_q (some 20) rfl rfl (by rfl) (fun W hC => ?_) ?_
 ·obtain ⟨x0, x1, x2, x3, x4, x5, x6, x7, x8, x9, x10⟩ := HX.out W hC
  go_simp
  try rfl
 try simp only [Act.put, nms]
 refine wpLo_q (some 21) rfl rfl (by rfl) (fun W hC => ?_) ?_
 ·obtain ⟨x0, x1, x2, x3, x4, x5, x6, x7, x8, x9, x10⟩ := HX.out W hC
  go_simp
  try rfl
 try simp only [Act.put, nms]
 refine wpLo_c (some 22) rfl rfl (by rfl) (PX.mk0 none 0 0 0) (fun y => .slice y.A n.srcs.length y.c) (fun y W => gL yt.hi y n.srcs W) (fun y W W' h h' => h.stp h') (fun W hF hC => ?_) (fun ys => ?_)
 ·refine LoOp.enter (by go_simp; first | done | exact ⟨rfl, rfl⟩ | rfl) ?_
  refine (spec_l15Lists n.srcs a7 c7 W (HR.out W hC).srcs (HR.out W hC).h7 (Lib.hid (HR.out W hC).h10)).mono ?_
  rintro e W1 ⟨hg1, hb1⟩
  obtain ⟨A, c, vs, rfl, hO, hP⟩ := hg1
  exact ⟨_, rfl, ⟨A, c, none, 0, vs, W.heap.size, W1.heap.size⟩, rfl, ⟨hb1⟩, hF.2.2.2.1, hb1.size, Nat.le_refl _, hO, own_within hO, hP, fun i hi => within_R (hP.row i hi)⟩
 try simp only [Act.put, nms]
 refine wpLo_q (some 23) rfl rfl (by rfl) (fun W hC => ?_) ?_
 ·obtain ⟨x0, x1, x2, x3, x4, x5, x6, x7, x8, x9, x10⟩ := HX.out W hC
  go_simp
  try rfl
 try simp only [Act.put, nms]
 refine wpLo_q (some 24) rfl rfl (by rfl) (fun W hC => ?_) ?_
 ·obtain ⟨x0, x1, x2, x3, x4, x5, x6, x7, x8, x9, x10⟩ := HX.out W hC
  go_simp
  try rfl
 try simp only [Act.put, nms]
 refine wpLo_c (some 25) rfl rfl (by rfl) (PX.mk0 none 0 0 0) (fun y => .slice y.A n.arrs.length y.c) (fun y W => gL ys.hi y n.arrs W) (fun y W W' h h' => h.stp h') (fun W hF hC => ?_) (fun ya => ?_)
 ·refine LoOp.enter (by go_simp; first | done | exact ⟨rfl, rfl⟩ | rfl) ?_
  refine (spec_l15Lists n.arrs a8 c8 W (HR.out W hC).arrs (HR.out W hC).h8 (Lib.hid (HR.out W hC).h11)).mono ?_
  rintro e W1 ⟨hg1, hb1⟩
  obtain ⟨A, c, vs, rfl, hO, hP⟩ := hg1
  exact ⟨_, rfl, ⟨A, c, none, 0, vs, W.heap.size, W1.heap.size⟩, rfl, ⟨hb1⟩, hF.2.2.2.1, hb1.size, Nat.le_refl _, hO, own_within hO, hP, fun i hi => within_R (hP.row i hi)⟩
 try simp only [Act.put, nms]
 refine wpLo_q (some 26) rfl rfl (by rfl) (fun W hC => ?_) ?_
 ·obtain ⟨x0, x1, x2, x3, x4, x5, x6, x7, x8, x9, x10⟩ := HX.out W hC
  go_simp
  try rfl
 try simp only [Act.put, nms]
 refine wpLo_q (some 27) rfl rfl (by rfl) (fun W hC => ?_) ?_
 ·obtain ⟨x0, x1, x2, x3, x4, x5, x6, x7, x8, x9, x10⟩ := HX.out W hC
  go_simp
  try rfl
 try simp only [Act.put, nms]
 refine wpLo_c (some 28) rfl rfl (by rfl) () (fun _ => .agg (netCells n ⟨ym.A, yc.A, yc.A2, yb.A, yo.A, yt.A, ys.A, ya.A, ym.c, yc.c, yc.c2, yb.c, yo.c, yt.c, ys.c, ya.c⟩)) (fun _ _ => True) (fun _ _ _ _ _ => trivial) (fun W hF hC => LoOp.val (w1 := W) (by go_simp; try rfl) ⟨(), rfl, stp_refl _, trivial⟩) (fun _ => ?_)
 try simp only [Act.put, nms]
 refine wpLo_z ?_
 intro W hF hC
 obtain ⟨⟨⟨⟨⟨⟨⟨⟨⟨⟨_, hm⟩, hc⟩, hb⟩, _⟩, ho⟩, _⟩, ht⟩, hs⟩, ha⟩, _⟩ := hF
 have hN := Lib.hid (NX.parts hm hc hb ho ht hs ha)
 clear hm hc hb ho ht hs ha
 have hb1 := hC.h
 have hb2 : W.heap[w.heap.size + 1]? = some (.cells #[.int .i64 0, .int .i64 0, .slice none 0 0, .slice none 0 0, .slice none 0 0, .slice none 0 0, .slice none 0 0, .slice none 0 0, .slice none 0 0, .slice none 0 0, .int .i64 0] 44 (0, 0)) := by
  have h1 := blk_new (w.alloc (.cells #[.int .i64 n.mesh.g.w, .int .i64 n.mesh.g.h, .slice a1 n.mesh.br.length c1, .slice a2 n.pa.length c2, .slice a3 n.pb.length c3, .slice a4 n.bufs.length c4, .slice a5 n.owners.length c5, .slice a6 n.turns.length c6, .slice a7 n.srcs.length c7, .slice a8 n.arrs.length c8, .int .i64 n.time] 44)) (.cells #[.int .i64 0, .int .i64 0, .slice none 0 0, .slice none 0 0, .slice none 0 0, .slice none 0 0, .slice none 0 0, .slice none 0 0, .slice none 0 0, .slice none 0 0, .int .i64 0] 44)
  rw [World.size_alloc] at h1
  exact blk_below h1 hC.h
 have y0 : W.cell? ⟨w.heap.size + 1, 0, none⟩ = some (.int .i64 0) := blk_cell hb2 0
 have f0 : W.frozen? ⟨w.heap.size + 1, 0, none⟩ = false := blk_frozen hb2 0
 have y1 : W.cell? ⟨w.heap.size + 1, 1, none⟩ = some (.int .i64 0) := blk_cell hb2 1
 have f1 : W.frozen? ⟨w.heap.size + 1, 1, none⟩ = false := blk_frozen hb2 1
 have y2 : W.cell? ⟨w.heap.size + 1, 2, none⟩ = some (.slice none 0 0) := blk_cell hb2 2
 have f2 : W.frozen? ⟨w.heap.size + 1, 2, none⟩ = false := blk_frozen hb2 2
 have y3 : W.cell? ⟨w.heap.size + 1, 3, none⟩ = some (.slice none 0 0) := blk_cell hb2 3
 have f3 : W.frozen? ⟨w.heap.size + 1, 3, none⟩ = false := blk_frozen hb2 3
 have y4 : W.cell? ⟨w.heap.size + 1, 4, none⟩ = some (.slice none 0 0) := blk_cell hb2 4
 have f4 : W.frozen? ⟨w.heap.size + 1, 4, none⟩ = false := blk_frozen hb2 4
 have y5 : W.cell? ⟨w.heap.size + 1, 5, none⟩ = some (.slice none 0 0) := blk_cell hb2 5
 have f5 : W.frozen? ⟨w.heap.size + 1, 5, none⟩ = false := blk_frozen hb2 5
 have y6 : W.cell? ⟨w.heap.size + 1, 6, none⟩ = some (.slice none 0 0) := blk_cell hb2 6
 have f6 : W.frozen? ⟨w.heap.size + 1, 6, none⟩ = false := blk_frozen hb2 6
 have y7 : W.cell? ⟨w.heap.size + 1, 7, none⟩ = some (.slice none 0 0) := blk_cell hb2 7
 have f7 : W.frozen? ⟨w.heap.size + 1, 7, none⟩ = false := blk_frozen hb2 7
 have y8 : W.cell? ⟨w.heap.size + 1, 8, none⟩ = some (.slice none 0 0) := blk_cell hb2 8
 have f8 : W.frozen? ⟨w.heap.size + 1, 8, none⟩ = false := blk_frozen hb2 8
 have y9 : W.cell? ⟨w.heap.size + 1, 9, none⟩ = some (.slice none 0 0) := blk_cell hb2 9
 have f9 : W.frozen? ⟨w.heap.size + 1, 9, none⟩ = false := blk_frozen hb2 9
 have y10 : W.cell? ⟨w.heap.size + 1, 10, none⟩ = some (.int .i64 0) := blk_cell hb2 10
 have f10 : W.frozen? ⟨w.heap.size + 1, 10, none⟩ = false := blk_frozen hb2 10
 clear hb2
 have hz1 := bw_size hb1
 simp only [szs] at hz1
 refine ⟨_, rfl, by rfl, ?_⟩
 dsimp only [netCells]
 go_simp
 go_wp2
 exact bodyPost_ret (v := .agg (netCells n ⟨ym.A, yc.A, yc.A2, yb.A, yo.A, yt.A, ys.A, ya.A, ym.c, yc.c, yc.c2, yb.c, yo.c, yt.c, ys.c, ya.c⟩)) (by simp [results, Tryz.results100, go_sem, netCells, *]) rfl ⟨⟨_, yb.vs, ys.vs, ya.vs, rfl, (by refine NX.lower (lo := (((w.alloc (.cells #[.int .i64 n.mesh.g.w, .int .i64 n.mesh.g.h, .slice a1 n.mesh.br.length c1, .slice a2 n.pa.length c2, .slice a3 n.pb.length c3, .slice a4 n.bufs.length c4, .slice a5 n.owners.length c5, .slice a6 n.turns.length c6, .slice a7 n.srcs.length c7, .slice a8 n.arrs.length c8, .int .i64 n.time] 44)).alloc (.cells #[.int .i64 0, .int .i64 0, .slice none 0 0, .slice none 0 0, .slice none 0 0, .slice none 0 0, .slice none 0 0, .slice none 0 0, .slice none 0 0, .slice none 0 0, .int .i64 0] 44))).heap.size) ?_ (by simp only [szs]; omega); (repeat (refine NX.off ?_ (by simp only [szs]; omega) _ _)); exact hN.out)⟩, bel⟩
end Go.Proofs.YtmkbmddgkdoaiaaGreat
