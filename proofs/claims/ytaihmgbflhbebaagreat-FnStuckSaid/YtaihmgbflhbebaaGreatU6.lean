/- Lemmas for laws of this seat, for all inputs: CpL Lo. -/
import Derived.Test.YtaihmgbflhbebaaGreatU5
import Derived.Test.YtaihmgbflhbebaaGreatU4
import Derived.RegionTactic
set_option linter.unusedVariables false
set_option linter.unusedSimpArgs false
namespace Go.Proofs.YtaihmgbflhbebaaGreat
open Go.RowKit Go.Proofs.YtaihmgbflhbebaaGreatW.PrintWords
open NoC
theorem own_lit0 {e g B sz : Nat} {w : World} (h : Lit e w g) (hB : B ≤ g) : w.ownsRow B e sz (.slice (some ⟨g, 0, none⟩) 0 0) 0 [] :=
  ⟨by simp, .inr ⟨g, 0, #[], rfl, hB, h, Nat.le_refl _, Nat.zero_le _, by simp, by simp⟩⟩
theorem FR.nil (w : World) (lo : Nat) : FR w lo [] [] := ⟨rfl, fun i h => absurd h (Nat.not_lt_zero _), fun i j _ h => absurd h (Nat.not_lt_zero _)⟩
theorem FR.snoc {w : World} {lo : Nat} {vs : List Value} {l : List (List Flit)} {u : Value} {y : List Flit} (h : FR w lo vs l) (hu : kF.R 80 w lo (fun _ => True) u y) (ha : ∀ i : Nat, i < l.length → Apart (vr vs i) u) : FR w lo (vs ++ [u]) (l ++ [y]) := by
  have hl := h.len
  have e1 : ∀ i : Nat, i < l.length → vr (vs ++ [u]) i = vr vs i := fun i hi => vr_left (by omega)
  have e2 : vr (vs ++ [u]) l.length = u := by
    have := vr_right (a := vs) (b := [u]) (i := 0)
    rw [Nat.add_zero, hl] at this
    exact this
  refine ⟨by simp [hl], fun i hi => ?_, fun i j hij hj => ?_⟩
  · rw [List.length_append, List.length_singleton] at hi
    by_cases e : i < l.length
    · rw [e1 i e, rl_left e]
      exact h.row i e
    · obtain rfl : i = l.length := by omega
      rw [e2]
      have := rl_right (a := l) (b := [y]) (i := 0)
      rw [Nat.add_zero] at this
      rw [this]
      exact hu
  · rw [List.length_append, List.length_singleton] at hj
    by_cases e : j < l.length
    · rw [e1 i (by omega), e1 j e]
      exact h.ap i j hij e
    · obtain rfl : j = l.length := by omega
      rw [e2, e1 i hij]
      exact ha i hij
theorem FR.other {w w1 : World} {lo base n : Nat} {vs us : List Value} {l : List (List Flit)} {v : Value} (h : FR w lo vs l) (ho : w.ownsRow base 43 1 v n us) (hg : w.grownBy w1 v.ownBlock) : FR w1 lo vs l :=
  ⟨h.len, fun i hi => by obtain ⟨inner, hin⟩ := Kd.R_own (h.row i hi); exact R_grownF (h.row i hi) hg (own_type_ne hin ho (by decide)), h.ap⟩
theorem RF_other {w w1 : World} {lo base n : Nat} {us : List Value} {u : Value} {y : List Flit} {v : Value} (h : kF.R 80 w lo (fun _ => True) u y) (ho : w.ownsRow base 43 1 v n us) (hg : w.grownBy w1 v.ownBlock) : kF.R 80 w1 lo (fun _ => True) u y := by
  obtain ⟨inner, hin⟩ := Kd.R_own h
  exact R_grownF h hg (own_type_ne hin ho (by decide))
def GotOX (w w' : World) (l : List (List Flit)) (e : Ending) : Prop := ∃ A c vs, e = .returned (.slice A l.length c) ∧ w'.ownsRow w.heap.size 43 1 (.slice A l.length c) l.length vs ∧ FR w' w.heap.size vs l
theorem take_snocB (l : List (List Flit)) (k : Nat) (hk : k < l.length) : l.take (k + 1) = l.take k ++ [rl l k] := by
  have : rl l (k : Int) = l[k] := by simp [rl, List.getD_eq_getElem?_getD, hk]
  rw [this, List.take_succ_eq_append_getElem hk]
section
variable {ops : Array Oper} {rest : List Oper} {o : Oper} {a : Act} {Q : Exit → Act → World → Prop}
theorem app_row {B : Nat} {W0 W : World} (hgd : o.guard = none) (s x : Operand)
    (ho : o.op = .call { callee := .builtin .append, args := #[s, x], argTypes := #[33, 33] })
    (v u : Value) (vs : List Value) (l : List (List Flit)) (y : List Flit) (hs : a.eval s = v) (hx : a.eval x = .slice (some ⟨W.heap.size, 0, none⟩) 1 1) (h1 : u.oneCell' = true)
    (HO : W.ownsRow B 43 1 v vs.length vs) (HF : FR W B vs l) (HU : kF.R 80 W B (fun _ => True) u y) (ha : ∀ i : Nat, i < l.length → Apart (vr vs i) u)
    (HB : Below B W0 W) (hB : B ≤ W.heap.size) (hl : vs.length ≤ 10000000)
    (h : ∀ v1 w1, w1.ownsRow B 43 1 v1 (vs ++ [u]).length (vs ++ [u]) → FR w1 B (vs ++ [u]) (l ++ [y]) → Below B W0 w1 → wpList Tryz.prog ops Q rest (a.put o.dst v1) w1) : wpList Tryz.prog ops Q (o :: rest) a (W.alloc (.cells #[u] 43)) := by
  refine print_append (P := Tryz.prog) (w0 := W0) B hgd s x 33 43 (.slice none 0 0) 24 ho Tryz.underlying33 info_B rfl (by omega) v vs u hs hx h1 HO HB hB (by omega) ?_
  intro v1 w1 hown hb hg hat
  exact h v1 w1 hown ((HF.other HO hg).snoc (RF_other HU HO hg) ha) hb
end
set_option maxHeartbeats 2000000 in
set_option maxRecDepth 100000 in
theorem impl_copyLists (l : List (List Flit)) (A : Option Addr) (c : Nat) (w : World) (hr : (kB 80).C w A l.length l) (hn : l.length ≤ 2097152) (hm : Hid (∀ x ∈ l, x.length ≤ 2097152)) :
    Calls Tryz.prog 72 #[.slice A l.length c] w fun e w' => GotOX w w' l e ∧ Below w.heap.size w w' := by
  go_enter Tryz.func72, Tryz.ntmps72
  go_wp2
  go_loopw [3, 9] (fun v i wr => ∃ vs : List Value, i = .int .i64 vs.length ∧ vs.length ≤ l.length ∧ Hid (wr.ownsRow w.heap.size 43 1 v vs.length vs) ∧ Hid (FR wr w.heap.size vs (l.take vs.length)) ∧ Below w.heap.size w wr) (fun _ i _ => l.length - (intOf i).toNat)
  case atStart => exact ⟨[], rfl, Nat.zero_le _, Lib.hid (own_lit0 (lit_new rfl) (Nat.le_refl _)), Lib.hid (FR.nil _ _), bel⟩
  case round =>
    obtain ⟨vs, rfl, hk, HO, HF, HB⟩ := hrel
    obtain ⟨Ao, co, rfl⟩ := own_slice HO.out
    have hzr := bw_size HB
    by_cases hlt : vs.length < l.length
    · have i0 : (vs.length : Int) < (l.length : Int) := by omega
      have k0 : (0 : Int) ≤ (vs.length : Int) := by omega
      obtain ⟨b, off, rfl, hb, Ai, ci, p0, hle, hCi⟩ := rdB_at (Kd.C_below hr HB) vs.length hlt
      have hki := hm.out _ (rl_mem hlt)
      have HT := Lib.hid (take_snocB l vs.length hlt)
      have HW : Hid (∀ i : Nat, i < (l.take vs.length).length → Within (vr vs i) w.heap.size wr.heap.size) := Lib.hid (fun i hi => within_R (HF.out.row i hi))
      go_wp2_with (first | (at_builtin; refine copy_F (B := w.heap.size) rfl (.tmp 14) (.tmp 15) rfl _ (rl l vs.length) Ai ci rfl rfl (by with_reducible repeat (first | assumption | (refine lit_new ?_; first | done | rfl | (simp only [World.size_alloc, World.size_drew, World.size_setCell]; done)) | exact lit_new (by simp only [World.size_alloc, World.size_drew, World.size_setCell]) | refine lit_stp (by assumption) ?_ | refine lit_alloc _ ?_ | refine lit_drew ?_)) (by first | omega | (simp only [szs]; omega)) (by exact Kd.C_below hCi bel) (by first | omega | (simp only [szs]; omega)) (by omega) ?_; intro v1 w1 HO1 hb1 ht1; obtain ⟨A1, c1, rfl⟩ := Kd.R_slice HO1; have hz1 := bw_size hb1; (try simp only [szs] at hz1); have HT1 := Lib.hid ht1; clear ht1) | (at_builtin; refine app_row (W0 := w) rfl (.tmp 13) (.tmp 17) rfl _ _ vs (l.take vs.length) (rl l vs.length) rfl (by first | rfl | exact congrArg (fun z => Value.slice (some ⟨z, 0, none⟩) 1 1) (World.size_alloc _ _).symm) rfl (by exact pw_own_below HO.out bel) (by exact HF.out.below bel) HO1 (fun i hi => apart_of (HW.out i hi) HT1.out (fun k => by (try simp only [szs]); omega)) bel (by first | omega | (simp only [szs]; omega)) (by omega) ?_; intro v2 w2 HO2 HF2 HB2))
      go_roundw
      case rel => exact ⟨vs ++ [.slice A1 (rl l vs.length).length c1], by rw [List.length_append, List.length_singleton]; go_num, by simp; omega, Lib.hid HO2, Lib.hid (by rw [List.length_append, List.length_singleton, HT.out]; exact HF2), HB2⟩
      case measure => simp [intOf]; omega
    · have e : vs.length = l.length := by omega
      have HE := Lib.hid e
      have i0 : ¬ (vs.length : Int) < (l.length : Int) := by omega
      clear e
      go_wp2
      have hF := HF.out
      have hO := HO.out
      rw [HE.out, List.take_length] at hF
      go_ret
      refine ⟨⟨Ao, co, vs, by rw [HE.out]; rfl, by rw [HE.out] at hO; exact hO, hF⟩, HB⟩
set_option maxHeartbeats 2000000 in
set_option maxRecDepth 100000 in
theorem spec_l15Lists (l : List (List Flit)) (A : Option Addr) (c : Nat) (w : World) (hr : (kB 80).C w A l.length l) (hn : l.length ≤ 2097152) (hm : Hid (∀ x ∈ l, x.length ≤ 2097152)) :
    Calls Tryz.prog 131 #[.slice A l.length c] w fun e w' => GotOX w w' l e ∧ Below w.heap.size w w' := by
  go_enter Tryz.func131, Tryz.ntmps131
  go_wp2
  go_loopw [3, 4] (fun v i wr => ∃ vs : List Value, i = .int .i64 vs.length ∧ vs.length ≤ l.length ∧ Hid (wr.ownsRow w.heap.size 43 1 v vs.length vs) ∧ Hid (FR wr w.heap.size vs (l.take vs.length)) ∧ Below w.heap.size w wr) (fun _ i _ => l.length - (intOf i).toNat)
  case atStart => exact ⟨[], rfl, Nat.zero_le _, Lib.hid (own_lit0 (lit_new rfl) (Nat.le_refl _)), Lib.hid (FR.nil _ _), bel⟩
  case round =>
    obtain ⟨vs, rfl, hk, HO, HF, HB⟩ := hrel
    obtain ⟨Ao, co, rfl⟩ := own_slice HO.out
    have hzr := bw_size HB
    by_cases hlt : vs.length < l.length
    · have i0 : (vs.length : Int) < (l.length : Int) := by omega
      have k0 : (0 : Int) ≤ (vs.length : Int) := by omega
      obtain ⟨b, off, rfl, hb, Ai, ci, p0, hle, hCi⟩ := rdB_at (Kd.C_below hr HB) vs.length hlt
      have hki := hm.out _ (rl_mem hlt)
      have HT := Lib.hid (take_snocB l vs.length hlt)
      have HW : Hid (∀ i : Nat, i < (l.take vs.length).length → Within (vr vs i) w.heap.size wr.heap.size) := Lib.hid (fun i hi => within_R (HF.out.row i hi))
      go_wp2_with (first | (at_builtin; refine copy_F (B := w.heap.size) rfl (.tmp 13) (.tmp 17) rfl _ (rl l vs.length) Ai ci rfl rfl (by with_reducible repeat (first | assumption | (refine lit_new ?_; first | done | rfl | (simp only [World.size_alloc, World.size_drew, World.size_setCell]; done)) | exact lit_new (by simp only [World.size_alloc, World.size_drew, World.size_setCell]) | refine lit_stp (by assumption) ?_ | refine lit_alloc _ ?_ | refine lit_drew ?_)) (by first | omega | (simp only [szs]; omega)) (by exact Kd.C_below hCi bel) (by first | omega | (simp only [szs]; omega)) (by omega) ?_; intro v1 w1 HO1 hb1 ht1; obtain ⟨A1, c1, rfl⟩ := Kd.R_slice HO1; have hz1 := bw_size hb1; (try simp only [szs] at hz1); have HT1 := Lib.hid ht1; clear ht1) | (at_builtin; refine app_row (W0 := w) rfl (.tmp 12) (.tmp 19) rfl _ _ vs (l.take vs.length) (rl l vs.length) rfl (by first | rfl | exact congrArg (fun z => Value.slice (some ⟨z, 0, none⟩) 1 1) (World.size_alloc _ _).symm) rfl (by exact pw_own_below HO.out bel) (by exact HF.out.below bel) HO1 (fun i hi => apart_of (HW.out i hi) HT1.out (fun k => by (try simp only [szs]); omega)) bel (by first | omega | (simp only [szs]; omega)) (by omega) ?_; intro v2 w2 HO2 HF2 HB2))
      go_roundw
      case rel => exact ⟨vs ++ [.slice A1 (rl l vs.length).length c1], by rw [List.length_append, List.length_singleton]; go_num, by simp; omega, Lib.hid HO2, Lib.hid (by rw [List.length_append, List.length_singleton, HT.out]; exact HF2), HB2⟩
      case measure => simp [intOf]; omega
    · have e : vs.length = l.length := by omega
      have HE := Lib.hid e
      have i0 : ¬ (vs.length : Int) < (l.length : Int) := by omega
      clear e
      go_wp2
      have hF := HF.out
      have hO := HO.out
      rw [HE.out, List.take_length] at hF
      go_ret
      refine ⟨⟨Ao, co, vs, by rw [HE.out]; rfl, by rw [HE.out] at hO; exact hO, hF⟩, HB⟩
end Go.Proofs.YtaihmgbflhbebaaGreat
namespace Go.Proofs.YtaihmgbflhbebaaGreat
open Go.RowKit Go.Proofs.YtaihmgbflhbebaaGreatW.PrintWords
inductive LK where
  | quiet
  | lit
  | chain
deriving DecidableEq
def LoOp (P : Program) (o : Oper) (a : Act) (w : World) (post : Value → World → Prop) : Prop :=
  match (execOp a.eval o).run P w with
  | .ok (.value v) w' => post v w'
  | .ok (.enter f args) w' => Calls P f args w' fun e w'' => ∃ v, e = .returned v ∧ post v w''
  | .ok .skip w' => o.dst = none ∧ post undef w'
  | _ => False
theorem LoOp.wp {P : Program} {o : Oper} {a : Act} {w : World} {post : Value → World → Prop} (h : LoOp P o a w post) {K : Act → World → Prop} {Q : Exit → Act → World → Prop} (hK : ∀ v w', post v w' → K (a.put o.dst v) w') : Oper.wp P o a w K Q := by
  unfold LoOp at h
  unfold Oper.wp
  generalize (execOp a.eval o).run P w = r at *
  cases r with
  | ok n w' =>
    cases n <;> simp only [Oper.upon] at h ⊢
    case value v => exact hK _ _ h
    case skip =>
      have h2 := hK _ _ h.2
      rw [h.1] at h2 ⊢
      exact h2
    case enter f args =>
      refine Calls.mono h fun e w'' he => ?_
      obtain ⟨v, rfl, hp⟩ := he
      exact hK _ _ hp
  | halt x w' => exact h.elim
section
variable (P : Program) (ops : Array Oper) (C : World → Prop) (B : Nat) (le : Nat → TypeId) (vq : Nat → Value) (Z : Act → (World → Prop) → Prop)
def wpLo : List (Nat × LK) → Act → (World → Prop) → Prop
  | [], a, F => Z a F
  | (i, .quiet) :: rest, a, F => ∃ o, ops[i]? = some o ∧ Region.wanted o (yielded ops a.tmps) = true ∧ (∀ w, C w → (execOp a.eval o).run P w = .ok (.value (vq i)) w) ∧ wpLo rest (a.put o.dst (vq i)) F
  | (i, .lit) :: rest, a, F => ∃ o, ops[i]? = some o ∧ Region.wanted o (yielded ops a.tmps) = true ∧ (∀ w, (execOp a.eval o).run P w = .ok (.value (.slice (some ⟨w.heap.size, 0, none⟩) 0 0)) (w.alloc (.cells #[] (le i)))) ∧ ∀ g, B ≤ g → wpLo rest (a.put o.dst (.slice (some ⟨g, 0, none⟩) 0 0)) (fun w => F w ∧ Lit (le i) w g)
  | (i, .chain) :: rest, a, F => ∃ o, ops[i]? = some o ∧ Region.wanted o (yielded ops a.tmps) = true ∧ ∃ (ι : Type) (y0 : ι) (val : ι → Value) (G : ι → World → Prop), (∀ y w w', G y w → Stp w w' → G y w') ∧ (∀ w, F w → C w → LoOp P o a w (fun v w' => ∃ y, v = val y ∧ Stp w w' ∧ G y w')) ∧ ∀ y, wpLo rest (a.put o.dst (val y)) (fun w => F w ∧ G y w)
end
section
variable {P : Program} {ops : Array Oper} {C : World → Prop} {B : Nat} {le : Nat → TypeId} {vq : Nat → Value} {Z : Act → (World → Prop) → Prop}
theorem wpLo_q {i : Nat} {rest : List (Nat × LK)} {a : Act} {F : World → Prop} {o : Oper} (d : Option Tmp) (ho : ops[i]? = some o) (hd : o.dst = d) (hw : Region.wanted o (yielded ops a.tmps) = true) (hr : ∀ w, C w → (execOp a.eval o).run P w = .ok (.value (vq i)) w) (h : wpLo P ops C B le vq Z rest (a.put d (vq i)) F) : wpLo P ops C B le vq Z ((i, .quiet) :: rest) a F := ⟨o, ho, hw, hr, hd ▸ h⟩
theorem wpLo_l {i : Nat} {rest : List (Nat × LK)} {a : Act} {F : World → Prop} {o : Oper} (d : Option Tmp) (ho : ops[i]? = some o) (hd : o.dst = d) (hw : Region.wanted o (yielded ops a.tmps) = true) (hr : ∀ w, (execOp a.eval o).run P w = .ok (.value (.slice (some ⟨w.heap.size, 0, none⟩) 0 0)) (w.alloc (.cells #[] (le i)))) (h : ∀ g, B ≤ g → wpLo P ops C B le vq Z rest (a.put d (.slice (some ⟨g, 0, none⟩) 0 0)) (fun w => F w ∧ Lit (le i) w g)) : wpLo P ops C B le vq Z ((i, .lit) :: rest) a F := ⟨o, ho, hw, hr, hd ▸ h⟩
theorem wpLo_c {i : Nat} {rest : List (Nat × LK)} {a : Act} {F : World → Prop} {o : Oper} (d : Option Tmp) (ho : ops[i]? = some o) (hd : o.dst = d) (hw : Region.wanted o (yielded ops a.tmps) = true) {ι : Type} (y0 : ι) (val : ι → Value) (G : ι → World → Prop) (hG : ∀ y w w', G y w → Stp w w' → G y w') (hr : ∀ w, F w → C w → LoOp P o a w (fun v w' => ∃ y, v = val y ∧ Stp w w' ∧ G y w')) (h : ∀ y, wpLo P ops C B le vq Z rest (a.put d (val y)) (fun w => F w ∧ G y w)) : wpLo P ops C B le vq Z ((i, .chain) :: rest) a F := ⟨o, ho, hw, ι, y0, val, G, hG, hr, hd ▸ h⟩
theorem wpLo_z {a : Act} {F : World → Prop} (h : Z a F) : wpLo P ops C B le vq Z [] a F := h
theorem wpLo_mono (hZ : ∀ a F F', (∀ w, F' w → F w) → Z a F → Z a F') : ∀ (l : List (Nat × LK)) (a : Act) (F F' : World → Prop), (∀ w, F' w → F w) → wpLo P ops C B le vq Z l a F → wpLo P ops C B le vq Z l a F' := by
  intro l
  induction l with
  | nil => intro a F F' h hw; exact hZ a F F' h hw
  | cons x rest ih =>
    intro a F F' h hw
    obtain ⟨i, k⟩ := x
    cases k with
    | quiet =>
      obtain ⟨o, h1, h2, h3, h4⟩ := hw
      exact ⟨o, h1, h2, h3, ih _ _ _ h h4⟩
    | lit =>
      obtain ⟨o, h1, h2, h3, h4⟩ := hw
      exact ⟨o, h1, h2, h3, fun g hg => ih _ _ _ (fun w hw => ⟨h w hw.1, hw.2⟩) (h4 g hg)⟩
    | chain =>
      obtain ⟨o, h1, h2, ι, y0, val, G, h3, h4, h5⟩ := hw
      exact ⟨o, h1, h2, ι, y0, val, G, h3, fun w hF hC => h4 w (h w hF) hC, fun y => ih _ _ _ (fun w hw => ⟨h w hw.1, hw.2⟩) (h5 y)⟩
theorem LoOp_put {o : Oper} {a : Act} {w : World} {post : Value → World → Prop} (hs : ∀ cs b, o.op ≠ .select cs b) (d : Option Tmp) (u : Value) (h3 : ∀ t, d = some t → t ∉ o.looksAt ops) : LoOp P o (a.put d u) w post ↔ LoOp P o a w post := by
  unfold LoOp
  rw [execOp_put o hs a d u h3]
theorem wpLo_move (hZ : ∀ a F F', (∀ w, F' w → F w) → Z a F → Z a F') (hsel : ∀ (j : Nat) (o : Oper) cs b, ops[j]? = some o → o.op ≠ .select cs b) {b : Nat} {k : LK} {ob : Oper} (hob : ops[b]? = some ob) (hk : k ≠ .chain) (l2 : List (Nat × LK)) :
  ∀ (l1 : List (Nat × LK)) (a : Act) (F : World → Prop), (∀ x ∈ l1, ∀ ox, ops[x.1]? = some ox → ob.apart ops ox = true) → wpLo P ops C B le vq Z (l1 ++ (b, k) :: l2) a F → wpLo P ops C B le vq Z ((b, k) :: (l1 ++ l2)) a F := by
 intro l1
 induction l1 with
 | nil => intro a F _ h; exact h
 | cons x l1 ih =>
  intro a F hap h
  obtain ⟨i, ki⟩ := x
  have hapr : ∀ y ∈ l1, ∀ oy, ops[y.1]? = some oy → ob.apart ops oy = true := fun y hy => hap y (by simp [hy])
  have core : ∀ ox, ops[i]? = some ox → (∀ d, ob.dst = some d → d ∉ ox.looksAt ops) ∧ (∀ d, ob.dst = some d → ox.dst ≠ some d) ∧ (∀ d, ox.dst = some d → d ∉ ob.looksAt ops) := fun ox hox => Oper.apart_spec (hap (i, ki) (by simp) ox hox)
  cases k with
  | chain => exact absurd rfl hk
  | quiet =>
   cases ki with
   | quiet =>
    obtain ⟨ox, h1, h2, h3, h4⟩ := h
    obtain ⟨c1, c2, c3⟩ := core ox h1
    obtain ⟨ob', e1, e2, e3, e4⟩ := ih _ _ hapr h4
    obtain rfl := Option.some.inj (hob.symm.trans e1)
    refine ⟨_, hob, by rw [← e2]; exact (wanted_put _ a ox.dst (vq i) c3).symm, fun w hC => by rw [← execOp_put (ops := ops) _ (hsel b _ · · hob) a ox.dst (vq i) c3]; exact e3 w hC, ox, h1, by rw [wanted_put ox a _ _ c1]; exact h2, fun w hC => by rw [execOp_put (ops := ops) ox (hsel i ox · · h1) a _ _ c1]; exact h3 w hC, ?_⟩
    rw [Act.put_comm a _ _ c2]
    exact e4
   | lit =>
    obtain ⟨ox, h1, h2, h3, h4⟩ := h
    obtain ⟨c1, c2, c3⟩ := core ox h1
    obtain ⟨ob', e1, e2, e3, e4⟩ := ih _ _ hapr (h4 B (Nat.le_refl _))
    obtain rfl := Option.some.inj (hob.symm.trans e1)
    refine ⟨_, hob, by rw [← e2]; exact (wanted_put _ a ox.dst _ c3).symm, fun w hC => by rw [← execOp_put (ops := ops) _ (hsel b _ · · hob) a ox.dst _ c3]; exact e3 w hC, ox, h1, by rw [wanted_put ox a _ _ c1]; exact h2, fun w => by rw [execOp_put (ops := ops) ox (hsel i ox · · h1) a _ _ c1]; exact h3 w, fun g hg => ?_⟩
    obtain ⟨ob'', f1, f2, f3, f4⟩ := ih _ _ hapr (h4 g hg)
    obtain rfl := Option.some.inj (hob.symm.trans f1)
    rw [Act.put_comm a _ _ c2]
    exact f4
   | chain =>
    obtain ⟨ox, h1, h2, ι, y0, val, G, h3, h4, h5⟩ := h
    obtain ⟨c1, c2, c3⟩ := core ox h1
    obtain ⟨ob', e1, e2, e3, e4⟩ := ih _ _ hapr (h5 y0)
    obtain rfl := Option.some.inj (hob.symm.trans e1)
    refine ⟨_, hob, by rw [← e2]; exact (wanted_put _ a ox.dst _ c3).symm, fun w hC => by rw [← execOp_put (ops := ops) _ (hsel b _ · · hob) a ox.dst _ c3]; exact e3 w hC, ox, h1, by rw [wanted_put ox a _ _ c1]; exact h2, ι, y0, val, G, h3, fun w hF hC => (LoOp_put (hsel i ox · · h1) _ _ c1).2 (h4 w hF hC), fun y => ?_⟩
    obtain ⟨ob'', f1, f2, f3, f4⟩ := ih _ _ hapr (h5 y)
    obtain rfl := Option.some.inj (hob.symm.trans f1)
    rw [Act.put_comm a _ _ c2]
    exact f4
  | lit =>
   cases ki with
   | quiet =>
    obtain ⟨ox, h1, h2, h3, h4⟩ := h
    obtain ⟨c1, c2, c3⟩ := core ox h1
    obtain ⟨ob', e1, e2, e3, e4⟩ := ih _ _ hapr h4
    obtain rfl := Option.some.inj (hob.symm.trans e1)
    refine ⟨_, hob, by rw [← e2]; exact (wanted_put _ a ox.dst _ c3).symm, fun w => by rw [← execOp_put (ops := ops) _ (hsel b _ · · hob) a ox.dst _ c3]; exact e3 w, fun gb hgb => ⟨ox, h1, by rw [wanted_put ox a _ _ c1]; exact h2, fun w hC => by rw [execOp_put (ops := ops) ox (hsel i ox · · h1) a _ _ c1]; exact h3 w hC, ?_⟩⟩
    rw [Act.put_comm a _ _ c2]
    exact e4 gb hgb
   | lit =>
    obtain ⟨ox, h1, h2, h3, h4⟩ := h
    obtain ⟨c1, c2, c3⟩ := core ox h1
    obtain ⟨ob', e1, e2, e3, e4⟩ := ih _ _ hapr (h4 B (Nat.le_refl _))
    obtain rfl := Option.some.inj (hob.symm.trans e1)
    refine ⟨_, hob, by rw [← e2]; exact (wanted_put _ a ox.dst _ c3).symm, fun w => by rw [← execOp_put (ops := ops) _ (hsel b _ · · hob) a ox.dst _ c3]; exact e3 w, fun gb hgb => ⟨ox, h1, by rw [wanted_put ox a _ _ c1]; exact h2, fun w => by rw [execOp_put (ops := ops) ox (hsel i ox · · h1) a _ _ c1]; exact h3 w, fun g hg => ?_⟩⟩
    obtain ⟨ob'', f1, f2, f3, f4⟩ := ih _ _ hapr (h4 g hg)
    obtain rfl := Option.some.inj (hob.symm.trans f1)
    rw [Act.put_comm a _ _ c2]
    exact wpLo_mono hZ _ _ _ _ (fun w hw => ⟨⟨hw.1.1, hw.2⟩, hw.1.2⟩) (f4 gb hgb)
   | chain =>
    obtain ⟨ox, h1, h2, ι, y0, val, G, h3, h4, h5⟩ := h
    obtain ⟨c1, c2, c3⟩ := core ox h1
    obtain ⟨ob', e1, e2, e3, e4⟩ := ih _ _ hapr (h5 y0)
    obtain rfl := Option.some.inj (hob.symm.trans e1)
    refine ⟨_, hob, by rw [← e2]; exact (wanted_put _ a ox.dst _ c3).symm, fun w => by rw [← execOp_put (ops := ops) _ (hsel b _ · · hob) a ox.dst _ c3]; exact e3 w, fun gb hgb => ⟨ox, h1, by rw [wanted_put ox a _ _ c1]; exact h2, ι, y0, val, G, h3, fun w hF hC => (LoOp_put (hsel i ox · · h1) _ _ c1).2 (h4 w hF.1 hC), fun y => ?_⟩⟩
    obtain ⟨ob'', f1, f2, f3, f4⟩ := ih _ _ hapr (h5 y)
    obtain rfl := Option.some.inj (hob.symm.trans f1)
    rw [Act.put_comm a _ _ c2]
    exact wpLo_mono hZ _ _ _ _ (fun w hw => ⟨⟨hw.1.1, hw.2⟩, hw.1.2⟩) (f4 gb hgb)

def anc (ops : Array Oper) : Nat → Nat → List Nat
  | 0, _ => []
  | k + 1, i => match ops[i]? with
    | none => []
    | some o => o.after.toList.flatMap fun e => if Region.binds .any e = true then e.on :: anc ops k e.on else []
def Down (ops : Array Oper) (listed : Array Bool) : Prop := ∀ j oj, ops[j]? = some oj → listed.getD j false = true → ∀ e ∈ oj.after, Region.binds .any e = true → listed.getD e.on false = true
theorem anc_listed {listed : Array Bool} (hd : Down ops listed) : ∀ (k i : Nat), (∀ o, ops[i]? = some o → ∀ e ∈ o.after, Region.binds .any e = true → listed.getD e.on false = true) → ∀ y ∈ anc ops k i, listed.getD y false = true := by
  intro k
  induction k with
  | zero => intro i _ y hy; simp [anc] at hy
  | succ k ih =>
    intro i h y hy
    unfold anc at hy
    cases ho : ops[i]? with
    | none => rw [ho] at hy; simp at hy
    | some o =>
      rw [ho] at hy
      simp only [List.mem_flatMap] at hy
      obtain ⟨e, he, hy⟩ := hy
      have he' : e ∈ o.after := by simpa using he
      split at hy
      · rename_i hb
        have h1 := h o ho e he' hb
        rcases List.mem_cons.1 hy with rfl | hy
        · exact h1
        · exact ih e.on (fun o' ho' e' he'' hb' => hd e.on o' ho' h1 e' he'' hb') y hy
      · simp at hy
def goodLo (ops : Array Oper) : List Nat → List (Nat × LK) → Bool
  | _, [] => true
  | run, (j, .chain) :: rest => run.all (fun y => (anc ops 3 j).contains y) && goodLo ops [j] rest
  | run, (j, _) :: rest => goodLo ops (j :: run) rest
theorem goodLo_mono : ∀ (l : List (Nat × LK)) (run run' : List Nat), (∀ y ∈ run', y ∈ run) → goodLo ops run l = true → goodLo ops run' l = true := by
  intro l
  induction l with
  | nil => intro _ _ _ _; rfl
  | cons x l ih =>
    intro run run' h hg
    obtain ⟨j, k⟩ := x
    cases k with
    | chain =>
      simp only [goodLo, Bool.and_eq_true, List.all_eq_true] at hg ⊢
      exact ⟨fun y hy => hg.1 y (h y hy), hg.2⟩
    | quiet => exact ih _ _ (fun y hy => by rcases List.mem_cons.1 hy with rfl | hy; exact List.mem_cons_self; exact List.mem_cons_of_mem _ (h y hy)) hg
    | lit => exact ih _ _ (fun y hy => by rcases List.mem_cons.1 hy with rfl | hy; exact List.mem_cons_self; exact List.mem_cons_of_mem _ (h y hy)) hg
theorem goodLo_tail {x : Nat × LK} {l : List (Nat × LK)} (h : goodLo ops [] (x :: l) = true) : goodLo ops [] l = true := by
  obtain ⟨j, k⟩ := x
  cases k with
  | chain =>
    simp only [goodLo, Bool.and_eq_true] at h
    exact goodLo_mono _ _ _ (fun y hy => by simp at hy) h.2
  | quiet => exact goodLo_mono _ _ _ (fun y hy => by simp at hy) h
  | lit => exact goodLo_mono _ _ _ (fun y hy => by simp at hy) h
theorem goodLo_drop {b : Nat} {k : LK} (hk : k ≠ .chain) (l2 : List (Nat × LK)) : ∀ (l1 : List (Nat × LK)) (run : List Nat), goodLo ops run (l1 ++ (b, k) :: l2) = true → goodLo ops run (l1 ++ l2) = true := by
  intro l1
  induction l1 with
  | nil =>
    intro run h
    cases k with
    | chain => exact absurd rfl hk
    | quiet => exact goodLo_mono _ _ _ (fun y hy => List.mem_cons_of_mem _ hy) h
    | lit => exact goodLo_mono _ _ _ (fun y hy => List.mem_cons_of_mem _ hy) h
  | cons x l1 ih =>
    intro run h
    obtain ⟨j, kj⟩ := x
    cases kj with
    | chain =>
      simp only [List.cons_append, goodLo, Bool.and_eq_true] at h ⊢
      exact ⟨h.1, ih _ h.2⟩
    | quiet => exact ih _ h
    | lit => exact ih _ h
theorem goodLo_waits {j : Nat} : ∀ (l1 l2 : List (Nat × LK)) (run : List Nat), run ≠ [] → goodLo ops run (l1 ++ (j, .chain) :: l2) = true → ∃ y, (y ∈ run ∨ y ∈ l1.map (·.1)) ∧ y ∈ anc ops 3 j := by
  intro l1
  induction l1 with
  | nil =>
    intro l2 run hr h
    simp only [List.nil_append, goodLo, Bool.and_eq_true, List.all_eq_true] at h
    cases run with
    | nil => exact absurd rfl hr
    | cons y r => exact ⟨y, .inl (by simp), by simpa using h.1 y (by simp)⟩
  | cons x l1 ih =>
    intro l2 run hr h
    obtain ⟨i, k⟩ := x
    cases k with
    | chain =>
      simp only [List.cons_append, goodLo, Bool.and_eq_true] at h
      obtain ⟨y, h1, h2⟩ := ih l2 [i] (by simp) h.2
      refine ⟨y, .inr ?_, h2⟩
      rcases h1 with h1 | h1
      · simp only [List.mem_singleton] at h1; subst h1; simp
      · simp only [List.map_cons, List.mem_cons]; exact .inr h1
    | quiet =>
      obtain ⟨y, h1, h2⟩ := ih l2 (i :: run) (by simp) h
      refine ⟨y, ?_, h2⟩
      rcases h1 with h1 | h1
      · rcases List.mem_cons.1 h1 with rfl | h1
        · exact .inr (by simp)
        · exact .inl h1
      · exact .inr (by simp only [List.map_cons, List.mem_cons]; exact .inr h1)
    | lit =>
      obtain ⟨y, h1, h2⟩ := ih l2 (i :: run) (by simp) h
      refine ⟨y, ?_, h2⟩
      rcases h1 with h1 | h1
      · rcases List.mem_cons.1 h1 with rfl | h1
        · exact .inr (by simp)
        · exact .inl h1
      · exact .inr (by simp only [List.map_cons, List.mem_cons]; exact .inr h1)
def pairLo (ops : Array Oper) (x b : Nat × LK) : Bool := decide (b.2 = .chain) || (anc ops 3 b.1).contains x.1 || (match ops[b.1]?, ops[x.1]? with | some ob, some ox => ob.apart ops ox | _, _ => false)
def pairsLo (ops : Array Oper) : List (Nat × LK) → Bool
  | [] => true
  | x :: r => r.all (pairLo ops x) && pairsLo ops r
theorem pairsLo_drop {x : Nat × LK} (l2 : List (Nat × LK)) : ∀ l1 : List (Nat × LK), pairsLo ops (l1 ++ x :: l2) = true → pairsLo ops (l1 ++ l2) = true := by
  intro l1
  induction l1 with
  | nil => intro h; simp only [List.nil_append, pairsLo, Bool.and_eq_true] at h ⊢; exact h.2
  | cons y l1 ih =>
    intro h
    simp only [List.cons_append, pairsLo, Bool.and_eq_true, List.all_eq_true] at h ⊢
    refine ⟨fun z hz => h.1 z ?_, ih h.2⟩
    rcases List.mem_append.1 hz with hz | hz
    · exact List.mem_append_left _ hz
    · exact List.mem_append_right _ (List.mem_cons_of_mem _ hz)
theorem pairsLo_at {x : Nat × LK} (l2 : List (Nat × LK)) : ∀ l1 : List (Nat × LK), pairsLo ops (l1 ++ x :: l2) = true → ∀ y ∈ l1, pairLo ops y x = true := by
  intro l1
  induction l1 with
  | nil => intro _ y hy; simp at hy
  | cons z l1 ih =>
    intro h y hy
    simp only [List.cons_append, pairsLo, Bool.and_eq_true, List.all_eq_true] at h
    rcases List.mem_cons.1 hy with rfl | hy
    · exact h.1 x (by simp)
    · exact ih h.2 y hy
structure LoInv (ops : Array Oper) (m : Nat) (l : List (Nat × LK)) (listed : Array Bool) : Prop where
  size : listed.size = ops.size
  mem : ∀ i, i < m → (listed.getD i true = false ↔ i ∈ l.map (·.1))
  lt : ∀ x ∈ l, x.1 < m
  last : listed.getD m true = false
  down : Down ops listed
  sorted : l.Pairwise (fun x y => x.1 < y.1)
theorem getD_two {listed : Array Bool} {i : Nat} (hi : i < listed.size) : listed.getD i true = false ↔ ¬ listed.getD i false = true := by
  simp [hi]
theorem LoInv.next {m i : Nat} {k : LK} {l1 l2 : List (Nat × LK)} {listed : Array Bool} (h : LoInv ops m (l1 ++ (i, k) :: l2) listed) (hr : i ∈ Region.ready .any ops listed) : LoInv ops m (l1 ++ l2) (listed.setIfInBounds i true) := by
  obtain ⟨h0, o, ho, hall⟩ := mem_ready.1 hr
  have him : i < m := h.lt (i, k) (by simp)
  have hs := h.sorted
  rw [List.pairwise_append, List.pairwise_cons] at hs
  obtain ⟨s1, ⟨s2, s3⟩, s4⟩ := hs
  refine ⟨by simp [h.size], fun j hj => ?_, fun x hx => h.lt x (by rcases List.mem_append.1 hx with hx | hx; exact List.mem_append_left _ hx; exact List.mem_append_right _ (List.mem_cons_of_mem _ hx)), ?_, fun j oj hoj hl e he hb => ?_, ?_⟩
  · by_cases e : i = j
    · subst e
      have hlt : i < listed.size := by
        rcases Nat.lt_or_ge i listed.size with h1 | h1
        · exact h1
        · simp [Array.getElem?_eq_none h1] at h0
      constructor
      · intro hf
        simp [hlt] at hf
      · intro hm
        exfalso
        rw [List.map_append, List.mem_append] at hm
        rcases hm with hm | hm
        · obtain ⟨x, hx, e⟩ := List.mem_map.1 hm
          have := s4 x hx (i, k) (by simp)
          simp only at this e
          omega
        · obtain ⟨x, hx, e⟩ := List.mem_map.1 hm
          have := s2 x hx
          simp only at this e
          omega
    · rw [getD_set_ne true e, h.mem j hj]
      simp only [List.map_append, List.map_cons, List.mem_append, List.mem_cons]
      constructor
      · rintro (h1 | rfl | h1)
        · exact .inl h1
        · exact absurd rfl e
        · exact .inr h1
      · rintro (h1 | h1)
        · exact .inl h1
        · exact .inr (.inr h1)
  · rw [getD_set_ne true (by omega)]
    exact h.last
  · by_cases e2 : i = j
    · subst e2
      obtain rfl := Option.some.inj (ho.symm.trans hoj)
      exact getD_set_true (hall e he hb)
    · rw [getD_set_ne false e2] at hl
      exact getD_set_true (h.down j oj hoj hl e he hb)
  · rw [List.pairwise_append]
    exact ⟨s1, s3, fun x hx y hy => s4 x hx y (List.mem_cons_of_mem _ hy)⟩
theorem lo_done {Q : Exit → Act → World → Prop} {listed : Array Bool} {a : Act} {w : World} (hr : Region.ready .any ops listed = []) (h : Q .normal a w) : ∀ fuel, wpAny P .any ops Q fuel listed a w
  | 0 => ⟨hr, h⟩
  | _ + 1 => ⟨fun _ => h, by rw [hr]; simp⟩
def lastLo (ops : Array Oper) (m : Nat) : Bool := match ops[m]? with
  | some om => (List.range m).all fun k => om.after.any fun e => Region.binds .any e && decide (e.on = k)
  | none => false
def backLo (ops : Array Oper) : Bool := (List.range ops.size).all fun i => match ops[i]? with
  | some o => o.after.all fun e => !(Region.binds .any e) || decide (e.on < i)
  | none => true
theorem back_at (hb : backLo ops = true) {i : Nat} {o : Oper} (ho : ops[i]? = some o) : ∀ e ∈ o.after, Region.binds .any e = true → e.on < i := by
  intro e he hbe
  have hi : i < ops.size := (Array.getElem?_eq_some_iff.1 ho).1
  simp only [backLo, List.all_eq_true, List.mem_range] at hb
  have := hb i hi
  rw [ho] at this
  simp only at this
  rw [Array.all_eq_true_iff_forall_mem] at this
  have h2 := this e he
  rw [hbe] at h2
  simpa using h2
theorem lo_sound {Q : Exit → Act → World → Prop} {m : Nat} (hZ : ∀ a F F', (∀ w, F' w → F w) → Z a F → Z a F') (hfin : ∀ a F, Z a F → ∀ w, F w → C w → ∃ om, ops[m]? = some om ∧ Region.wanted om (yielded ops a.tmps) = true ∧ Oper.wp P om a w (fun a' w' => Q .normal a' w') Q)
  (hns : Region.noSelect ops = true) (hsz : ops.size = m + 1) (hlast : lastLo ops m = true) (hback : backLo ops = true) (hCB : ∀ w, C w → B ≤ w.heap.size) (hCS : ∀ w w', C w → Stp w w' → C w') :
  ∀ (fuel : Nat) (l : List (Nat × LK)) (listed : Array Bool) (a : Act) (w : World) (F : World → Prop), l.length + 1 ≤ fuel → LoInv ops m l listed → goodLo ops [] l = true → pairsLo ops l = true → (∀ w w', F w → Stp w w' → F w') → F w → C w → wpLo P ops C B le vq Z l a F → wpAny P .any ops Q fuel listed a w := by
 intro fuel
 induction fuel with
 | zero => intro l listed a w F h; omega
 | succ fuel ih =>
  intro l listed a w F hf hI hg hp hst hF hC hw
  have hsel := Region.noSelect_spec hns
  refine ⟨fun hr => ?_, fun i hi => ?_⟩
  ·exfalso
   cases l with
   | nil =>
    have hm : m ∈ Region.ready .any ops listed := by
     have hms : m < ops.size := by omega
     refine mem_ready.2 ⟨hI.last, ops[m], Array.getElem?_eq_getElem hms, fun e he hb => ?_⟩
     have hlt := back_at hback (Array.getElem?_eq_getElem hms) e he hb
     have h1 := (hI.mem e.on hlt)
     rcases Bool.eq_false_or_eq_true (listed.getD e.on false) with h2 | h2
     ·exact h2
     ·exfalso
      have := h1.1 ((getD_two (by rw [hI.size]; omega)).2 (by simp [h2]))
      simp at this
    rw [hr] at hm
    cases hm
   | cons x l =>
    obtain ⟨j, k⟩ := x
    have hjm : j < m := hI.lt (j, k) (by simp)
    have hj : j ∈ Region.ready .any ops listed := by
     have hjs : j < ops.size := by omega
     refine mem_ready.2 ⟨(hI.mem j hjm).2 (by simp), ops[j], Array.getElem?_eq_getElem hjs, fun e he hb => ?_⟩
     have hlt := back_at hback (Array.getElem?_eq_getElem hjs) e he hb
     have h1 := (hI.mem e.on (by omega))
     rcases Bool.eq_false_or_eq_true (listed.getD e.on false) with h2 | h2
     ·exact h2
     ·exfalso
      have h3 := h1.1 ((getD_two (by rw [hI.size]; omega)).2 (by simp [h2]))
      obtain ⟨y, hy, e2⟩ := List.mem_map.1 h3
      rcases List.mem_cons.1 hy with rfl | hy
      ·simp only at e2; omega
      ·have := (List.pairwise_cons.1 hI.sorted).1 y hy
       simp only at this e2
       omega
    rw [hr] at hj
    cases hj
  ·obtain ⟨h0, o, ho, hall⟩ := mem_ready.1 hi
   have hil : ∀ y, listed.getD y false = true → y < m → y ∉ l.map (·.1) := fun y hy hym hmem => by
    have h1 := (hI.mem y hym).2 hmem
    have h2 : y < listed.size := by rw [hI.size]; omega
    rw [getD_two h2] at h1
    exact h1 hy
   have his : i < ops.size := (Array.getElem?_eq_some_iff.1 ho).1
   rcases Nat.lt_or_ge i m with him | him
   ·-- one of l
    have hmem := (hI.mem i him).1 h0
    obtain ⟨x, hx, ex⟩ := List.mem_map.1 hmem
    obtain ⟨l1, l2, rfl⟩ := List.append_of_mem hx
    obtain ⟨i', k⟩ := x
    simp only at ex
    subst ex
    have hanc : ∀ y ∈ anc ops 3 i', listed.getD y false = true := anc_listed hI.down 3 i' (fun o' ho' e he hb => by obtain rfl := Option.some.inj (ho.symm.trans ho'); exact hall e he hb)
    have hI2 := hI.next hi
    have hp2 := pairsLo_drop _ l1 hp
    have hlen : (l1 ++ l2).length + 1 ≤ fuel := by simp only [List.length_append, List.length_cons] at hf ⊢; omega
    cases k with
    | chain =>
     have hl1 : l1 = [] := by
      cases l1 with
      | nil => rfl
      | cons z l1 =>
       exfalso
       obtain ⟨jz, kz⟩ := z
       have : ∃ y, (y ∈ [jz] ∨ y ∈ l1.map (·.1)) ∧ y ∈ anc ops 3 i' := by
        cases kz with
        | chain =>
         simp only [List.cons_append, goodLo, Bool.and_eq_true] at hg
         exact goodLo_waits l1 l2 [jz] (by simp) hg.2
        | quiet => exact goodLo_waits l1 l2 [jz] (by simp) hg
        | lit => exact goodLo_waits l1 l2 [jz] (by simp) hg
       obtain ⟨y, hy, ha⟩ := this
       have hmemy : y ∈ ((jz, kz) :: l1 ++ (i', LK.chain) :: l2).map (·.1) := by
        rcases hy with hy | hy
        ·simp only [List.mem_singleton] at hy; subst hy; simp
        ·simp only [List.cons_append, List.map_cons, List.map_append, List.mem_cons, List.mem_append]; exact .inr (.inl hy)
       obtain ⟨z, hz, ez⟩ := List.mem_map.1 hmemy
       exact hil y (hanc y ha) (by have := hI.lt z hz; omega) hmemy
     subst hl1
     obtain ⟨o', e1, e2, ι, y0, val, G, h3, h4, h5⟩ := hw
     obtain rfl := Option.some.inj (ho.symm.trans e1)
     unfold wpOp
     simp only [ho, e2, if_true]
     refine .inl ((h4 w hF hC).wp (fun v w' hpost => ?_))
     obtain ⟨y, rfl, hS, hG⟩ := hpost
     exact ih l2 _ _ w' _ (by simpa using hlen) hI2 (goodLo_tail hg) hp2 (fun w1 w2 h12 hs => ⟨hst _ _ h12.1 hs, h3 _ _ _ h12.2 hs⟩) ⟨hst _ _ hF hS, hG⟩ (hCS _ _ hC hS) (h5 y)
    | quiet =>
     have hap : ∀ x ∈ l1, ∀ ox, ops[x.1]? = some ox → o.apart ops ox = true := fun x hx ox hox => by
      have h1 := pairsLo_at l2 l1 hp x hx
      unfold pairLo at h1
      rw [ho, hox] at h1
      simp only [Bool.or_eq_true, decide_eq_true_eq] at h1
      rcases h1 with (h1 | h1) | h1
      ·cases h1
      ·exfalso
       exact hil x.1 (hanc x.1 (by simpa using h1)) (hI.lt x (List.mem_append_left _ hx)) (List.mem_map_of_mem (List.mem_append_left _ hx))
      ·exact h1
     obtain ⟨o', e1, e2, e3, e4⟩ := wpLo_move hZ hsel ho (by decide) l2 l1 a F hap hw
     obtain rfl := Option.some.inj (ho.symm.trans e1)
     unfold wpOp
     simp only [ho, e2, if_true]
     refine .inl ?_
     unfold Oper.wp
     rw [e3 w hC]
     exact ih _ _ _ w F hlen hI2 (goodLo_drop (by decide) l2 l1 [] hg) hp2 hst hF hC e4
    | lit =>
     have hap : ∀ x ∈ l1, ∀ ox, ops[x.1]? = some ox → o.apart ops ox = true := fun x hx ox hox => by
      have h1 := pairsLo_at l2 l1 hp x hx
      unfold pairLo at h1
      rw [ho, hox] at h1
      simp only [Bool.or_eq_true, decide_eq_true_eq] at h1
      rcases h1 with (h1 | h1) | h1
      ·cases h1
      ·exfalso
       exact hil x.1 (hanc x.1 (by simpa using h1)) (hI.lt x (List.mem_append_left _ hx)) (List.mem_map_of_mem (List.mem_append_left _ hx))
      ·exact h1
     obtain ⟨o', e1, e2, e3, e4⟩ := wpLo_move hZ hsel ho (by decide) l2 l1 a F hap hw
     obtain rfl := Option.some.inj (ho.symm.trans e1)
     unfold wpOp
     simp only [ho, e2, if_true]
     refine .inl ?_
     unfold Oper.wp
     rw [e3 w]
     have hS : Stp w (w.alloc (.cells #[] (le i'))) := ⟨bw_alloc _ (bw_refl w)⟩
     exact ih _ _ _ _ _ hlen hI2 (goodLo_drop (by decide) l2 l1 [] hg) hp2 (fun w1 w2 h12 hs => ⟨hst _ _ h12.1 hs, lit_stp hs h12.2⟩) ⟨hst _ _ hF hS, lit_new rfl⟩ (hCS _ _ hC hS) (e4 w.heap.size (hCB w hC))
   ·-- the last
    obtain rfl : i = m := by omega
    have hl : l = [] := by
     cases l with
     | nil => rfl
     | cons x l =>
      exfalso
      have hx := hI.lt x (by simp)
      unfold lastLo at hlast
      rw [ho] at hlast
      simp only [List.all_eq_true, List.mem_range] at hlast
      have h1 := hlast x.1 hx
      obtain ⟨ei, hei, h2⟩ := Array.any_eq_true.1 h1
      rw [Bool.and_eq_true, decide_eq_true_eq] at h2
      exact hil x.1 (by rw [← h2.2]; exact hall _ (Array.getElem_mem hei) h2.1) hx (by simp)
    subst hl
    obtain ⟨om, e1, e2, e3⟩ := hfin a F hw w hF hC
    obtain rfl := Option.some.inj (ho.symm.trans e1)
    unfold wpOp
    simp only [ho, e2, if_true]
    refine .inl (Oper.wp_mono (fun a' w' hq => lo_done ?_ hq fuel) e3)
    rw [List.eq_nil_iff_forall_not_mem]
    intro j hj
    obtain ⟨h1, oj, hoj, _⟩ := mem_ready.1 hj
    have hjs : j < ops.size := (Array.getElem?_eq_some_iff.1 hoj).1
    by_cases e : i = j
    ·subst e
     have : i < listed.size := by rw [hI.size]; exact his
     simp [this] at h1
    ·rw [getD_set_ne true e] at h1
     have := (hI.mem j (by omega)).1 h1
     simp at this
def lastZ (P : Program) (ops : Array Oper) (C : World → Prop) (Q : Exit → Act → World → Prop) (m : Nat) (a : Act) (F : World → Prop) : Prop := ∀ w, F w → C w → ∃ om, ops[m]? = some om ∧ Region.wanted om (yielded ops a.tmps) = true ∧ Oper.wp P om a w (fun a' w' => Q .normal a' w') Q
theorem wp_region_lo {Q : Exit → Act → World → Prop} {id : Nat} {a : Act} {w : World} (B : Nat) (C : World → Prop) (le : Nat → TypeId) (vq : Nat → Value) (m : Nat) (l : List (Nat × LK)) (hm : P.follows .mixedOrders = true)
    (hns : Region.noSelect ops = true) (hsz : ops.size = m + 1) (hl : l.map (·.1) = List.range m) (hlast : lastLo ops m = true) (hback : backLo ops = true) (hg : goodLo ops [] l = true) (hp : pairsLo ops l = true) (hCB : ∀ w, C w → B ≤ w.heap.size) (hCS : ∀ w w', C w → Stp w w' → C w') (hC : C w.drew)
    (h : wpLo P ops C B le vq (lastZ P ops C Q m) l a (fun _ => True)) : (Code.region id ops true).wp P Q a w := by
  refine wp_region_any hm ?_
  have hlen : l.length = m := by have := congrArg List.length hl; simpa using this
  refine lo_sound (P := P) (C := C) (B := B) (le := le) (vq := vq) (Z := lastZ P ops C Q m) (m := m) (fun a F F' hF hz w hw hc => hz w (hF w hw) hc) (fun a F hz w hF hc => hz w hF hc) hns hsz hlast hback hCB hCS ops.size l _ a _ (fun _ => True) (by omega) ⟨by simp, fun i hi => ?_, fun x hx => ?_, ?_, fun j oj hoj hj => ?_, ?_⟩ hg hp (fun _ _ _ _ => trivial) trivial hC h
  · have hi2 : i < ops.size := by omega
    rw [hl]
    simp [hi2, hi]
  · have : x.1 ∈ l.map (·.1) := List.mem_map_of_mem hx
    rw [hl] at this
    simpa using this
  · have : m < ops.size := by omega
    simp [this]
  · exfalso
    by_cases h1 : j < ops.size
    · simp [h1] at hj
    · simp [h1] at hj
  · have h1 : (l.map (·.1)).Pairwise (· < ·) := by rw [hl]; exact List.pairwise_lt_range
    rwa [List.pairwise_map] at h1
theorem LoOp.enter {o : Oper} {a : Act} {w : World} {post : Value → World → Prop} {f : FuncId} {args : Array Value} (hr : (execOp a.eval o).run P w = .ok (.enter f args) w) (h : Calls P f args w fun e w' => ∃ v, e = .returned v ∧ post v w') : LoOp P o a w post := by
  unfold LoOp
  rw [hr]
  exact h
theorem LoOp.val {o : Oper} {a : Act} {w w1 : World} {post : Value → World → Prop} {v : Value} (hr : (execOp a.eval o).run P w = .ok (.value v) w1) (h : post v w1) : LoOp P o a w post := by
  unfold LoOp
  rw [hr]
  exact h
theorem LoOp.skip {o : Oper} {a : Act} {w w1 : World} {post : Value → World → Prop} (hd : o.dst = none) (hr : (execOp a.eval o).run P w = .ok .skip w1) (h : post undef w1) : LoOp P o a w post := by
  unfold LoOp
  rw [hr]
  exact ⟨hd, h⟩
theorem run_append_op {o : Oper} {a : Act} {s x : Operand} {t : TypeId} {v sv xv : Value} {W W1 : World} (ho : o.op = .call { callee := .builtin .append, args := #[s, x], argTypes := #[t, t] }) (hs : a.eval s = sv) (hx : a.eval x = xv) (hr : (Builtin.append_ #[t, t] o.type #[sv, xv]).run P W = .ok v W1) : (execOp a.eval o).run P W = .ok (.value v) W1 := by
  unfold execOp
  simp only [ho, resolve, invoke, builtin, Sem.run_bind, Sem.run_pure, Result.andThen_ok, List.map_toArray, List.map_cons, List.map_nil, hs, hx, hr]
end
end Go.Proofs.YtaihmgbflhbebaaGreat
