/- Lemmas for laws of this seat, for all inputs: Geo Wh2 Wh3 DrP CrI Cr2 Nf WEqStruct Sn RunJ RunT RunU RunB Open OpenP OpenY NetM NetK GrL GrA CrJ. -/
import Derived.Test.YtaihmgbflhbebaaGreatQ8
import Derived.Test.YtaihmgbflhbebaaGreatQ17
import Derived.Test.YtaihmgbflhbebaaGreatQ12
import Derived.Test.YtaihmgbflhbebaaGreatQ6
import Derived.Test.YtaihmgbflhbebaaGreatQ9
import Derived.Test.YtaihmgbflhbebaaGreatQ10
import Derived.Test.YtaihmgbflhbebaaGreatQ11
import Derived.Test.YtaihmgbflhbebaaGreatQ2
import Derived.Laws.StructEq
import Derived.Test.YtaihmgbflhbebaaGreatQ14
import Derived.Test.YtaihmgbflhbebaaGreatQ16
import Derived.Test.YtaihmgbflhbebaaGreatQ3
import Derived.Test.YtaihmgbflhbebaaGreatQ1
import Derived.ProofKit
import Derived.OpenShut
import Derived.SizedLaws
import Derived.WideShapes
import Derived.ChangeSame
set_option linter.unusedVariables false
set_option linter.unusedSimpArgs false
namespace NoC
theorem grid_cases {g : Grid} (h : gridOk g = true) : ∃ w h : Nat, w < 4 ∧ h < 4 ∧ g = ⟨(w : Int) + 1, (h : Int) + 1⟩ := by
  simp only [gridOk, inside, Bool.and_eq_true, decide_eq_true_eq] at h
  obtain ⟨⟨w1, w4⟩, h1, h4⟩ := h
  obtain ⟨w, h⟩ := g
  dsimp only at w1 w4 h1 h4
  refine ⟨(w - 1).toNat, (h - 1).toNat, by omega, by omega, ?_⟩
  rw [Int.toNat_of_nonneg (by omega), Int.toNat_of_nonneg (by omega)]
  congr 1 <;> omega
theorem isNode_ok {g : Grid} {a : Int} (ha : isNode g a = true) : gridOk g = true ∧ 0 ≤ a ∧ a < 16 := by
  have h1 := isNode_iff.1 ha
  have h2 := count_le g
  refine ⟨?_, by omega, by omega⟩
  cases h : gridOk g
  · unfold nodeCount at h1
    rw [h] at h1
    simp at h1
    omega
  · rfl
def geoB (g : Grid) (a p : Int) : Bool := !(isNode g a && decide (0 ≤ nextNode g a p)) || (isNode g (nextNode g a p) && decide (nextNode g (nextNode g a p) (opposite p) = a) && decide (opposite (opposite p) = p) && decide (nextNode g a p ≠ a) && decide (0 ≤ opposite p ∧ opposite p ≤ 3))
set_option maxRecDepth 100000 in
theorem geo_all : (allI 4 fun w => allI 4 fun h => allI 16 fun a => allI 4 fun p => geoB ⟨(w : Int) + 1, (h : Int) + 1⟩ (a : Int) (p : Int)) = true := by decide +kernel
theorem geo {g : Grid} {a p : Int} (p0 : 0 ≤ p) (p3 : p ≤ 3) (ha : isNode g a = true) (h0 : 0 ≤ nextNode g a p) : isNode g (nextNode g a p) = true ∧ nextNode g (nextNode g a p) (opposite p) = a ∧ opposite (opposite p) = p ∧ nextNode g a p ≠ a ∧ 0 ≤ opposite p ∧ opposite p ≤ 3 := by
  obtain ⟨hg, a0, a1⟩ := isNode_ok ha
  obtain ⟨w, h, hw, hh, rfl⟩ := grid_cases hg
  have := allI_iff.1 (allI_iff.1 (allI_iff.1 (allI_iff.1 geo_all w hw) h hh) a.toNat (by omega)) p.toNat (by omega)
  rw [Int.toNat_of_nonneg a0, Int.toNat_of_nonneg p0] at this
  unfold geoB at this
  rw [ha, decide_eq_true h0] at this
  simpa [and_assoc] using this
def seM (n : Net) (si : Int → FS) (a : Int) (f : Flit) : Int → FS := fun b => if b = eTo n a then aft f else si b
def ssM (ss : Int → FS) (a : Int) (f : Flit) : Int → FS := fun y => if y = a then aft f else ss y
theorem dn_E {n : Net} {m : Mesh} {si : Int → FS} {sa : Int → Int → FS} {a : Int} {f : Flit} {y p c : Int} (hp : opens m y p) (k0 : 0 ≤ c) (k1 : c ≤ 1) (eT : eTo n a = 10 * a + 8 + f.cls) (c0 : 0 ≤ f.cls) (c1 : f.cls ≤ 1) : dn m (seM n si a f) sa y p c = dn m si sa y p c := by
  unfold dn seM
  by_cases e4 : p = 4
  · rw [if_pos e4, if_pos e4]
  · rw [if_neg e4, if_neg e4]
    have := opp_eq (p := p) hp.2.1 (by have := hp.2.2.1; omega)
    rw [if_neg (by omega)]
theorem WI_enter {n x : Net} {so si : Int → FS} {ss : Int → FS} {sa : Int → Int → FS} (h : WI x so si ss sa) {a : Int} {f : Flit} {rest : List Flit} (a0 : 0 ≤ a) (a1 : a < (x.srcs.length : Int))
    (hf : rl x.srcs a = f :: rest) (hfn : rf (rl n.srcs a) 0 = f) (c0 : 0 ≤ f.cls) (c1 : f.cls ≤ 1) (ht : eTo n a < (x.bufs.length : Int)) : WI (enterB n x a) so (seM n si a f) (ssM ss a f) sa := by
  have eT : eTo n a = 10 * a + 8 + f.cls := by unfold eTo; rw [hfn]
  obtain ⟨r1, r2⟩ := run_cons (by rw [← hf]; exact h.src a a0 a1)
  have hl := h.loc a f.cls a0 c0 c1
  have hsi : nx (si (eTo n a)) f = some (aft f) := by
    rw [eT, hl]
    refine nx_of (fun hh => ?_) (fun hh => ?_)
    · rw [nx_head r1 hh]; rfl
    · rw [nx_body r1 hh]
      simp [lcl, fid]
  refine ⟨fun b hb hb2 => ?_, fun y y0 y1 => ?_, h.arr, fun y c y0 k0 k1 => ?_, fun y p c hp k0 k1 => ?_, h.uniq⟩
  · unfold seM
    have e1 : (enterB n x a).bufs = x.bufs.set (eTo n a).toNat (rl x.bufs (eTo n a) ++ [f]) := by unfold enterB; rw [hfn]
    rw [e1] at hb2 ⊢
    rw [List.length_set] at hb2
    rw [rl_setI (by omega) ht b hb]
    have h5 := h.buf b hb hb2
    by_cases e : b = eTo n a
    · rw [if_pos e, if_pos e]
      rw [e] at h5 ⊢
      rw [run_snoc f _ _ _ h5]
      exact hsi
    · rw [if_neg e, if_neg e]
      exact h5
  · unfold ssM
    have e1 : (enterB n x a).srcs = x.srcs.set a.toNat ((rl x.srcs a).drop 1) := rfl
    rw [e1] at y1 ⊢
    rw [List.length_set] at y1
    rw [rl_setI a0 a1 y y0]
    by_cases e : y = a
    · rw [if_pos e, if_pos e, hf]
      exact r2
    · rw [if_neg e, if_neg e]
      exact h.src y y0 y1
  · unfold seM ssM
    have hy := h.loc y c y0 k0 k1
    by_cases e : y = a
    · rw [if_pos e]
      subst e
      by_cases ec : c = f.cls
      · rw [if_pos (by omega)]
        unfold aft
        cases ht2 : f.tail
        · simp [lcl, fid, ec]
        · simp [lcl]
      · rw [if_neg (by omega), hy]
        have en : ¬ f.cls = c := fun e2 => ec e2.symm
        have h1 : lcl (ss y) c = none := by
          cases hh : f.head
          · rw [nx_body r1 hh]
            simp [lcl, fid, en]
          · rw [nx_head r1 hh]
            rfl
        rw [h1]
        unfold aft
        cases ht2 : f.tail
        · simp [lcl, fid, en]
        · simp [lcl]
    · rw [if_neg e, if_neg (by omega)]
      exact hy
  · have e2 : (enterB n x a).mesh = x.mesh := rfl
    rw [e2] at hp ⊢
    rw [dn_E hp k0 k1 eT c0 c1]
    exact h.own y p c hp k0 k1
structure WX (n : Net) (so si : Int → FS) (sa : Int → Int → FS) : Prop where
  cv : ∀ (a j c : Int) t, 0 ≤ j → j ≤ 4 → 0 ≤ c → c ≤ 1 → so (10 * a + 2 * j + c) = some t → ∃ p, opens n.mesh a p ∧ ownAt n a p c = j
  dr : ∀ (a p c : Int) t, opens n.mesh a p → 0 ≤ c → c ≤ 1 → dn n.mesh si sa a p c = some t → entry n.mesh (tabOf n.pa n.pb c) a t.2.1 = p ∧ isNode n.mesh.g t.2.1 = true
  cl : ∀ (a p c : Int), isNode n.mesh.g a = true → 0 ≤ p → p ≤ 4 → 0 ≤ c → c ≤ 1 → ownAt n a p c ≠ -1 → opens n.mesh a p
  bd : ∀ (a q c : Int), isNode n.mesh.g a = true → 0 ≤ q → q ≤ 3 → 0 ≤ c → c ≤ 1 → si (10 * a + 2 * q + c) ≠ none → isNode n.mesh.g (nextNode n.mesh.g a q) = true ∧ live n.mesh (4 * nextNode n.mesh.g a q + opposite q) = true
def WE (n : Net) : Prop := ∃ so si ss sa, WI n so si ss sa ∧ WX n so si sa
theorem Mv.opens {n x : Net} {g : Grant} {rest : List Flit} (M : Mv n x g rest) : NoC.opens x.mesh g.node g.port := by
  refine ⟨by rw [M.mesh]; exact M.one.nd, M.one.p0, M.one.p4, ?_⟩
  by_cases h4 : g.port = 4
  · exact .inl h4
  · exact .inr (by rw [M.mesh]; exact (M.one.live h4).1)
theorem Mv.req {n x : Net} {g : Grant} {rest : List Flit} (M : Mv n x g rest) : ((mvF n g).head = true ∧ ownAt x g.node g.port (g.input % 2) = -1) ∨ ((mvF n g).head = false ∧ ownAt x g.node g.port (g.input % 2) = g.input / 2) := by
  rw [M.own]
  have hr := M.one.req
  unfold requestN at hr
  rw [Bool.and_eq_true, Bool.and_eq_true] at hr
  have h2 := hr.2
  have e : rf (bufOf n g.node g.input) 0 = mvF n g := rfl
  rw [e] at h2
  cases hh : (mvF n g).head
  · rw [if_neg (by simp [hh])] at h2
    exact .inr ⟨rfl, by simpa using h2⟩
  · rw [if_pos hh] at h2
    exact .inl ⟨rfl, by simpa using h2⟩
theorem Mv.head {n x : Net} {g : Grant} {rest : List Flit} (M : Mv n x g rest) (hh : (mvF n g).head = true) : entry n.mesh (tabOf n.pa n.pb (g.input % 2)) g.node (mvF n g).dst = g.port := by
  have h1 := M.one.wants.1
  have h2 := M.one.full
  rw [wanted_2 (a := g.node) (i := g.input) h2 hh] at h1
  exact h1
theorem WI_mv {n x : Net} {so si : Int → FS} {ss : Int → FS} {sa : Int → Int → FS} {g : Grant} {rest : List Flit} (M : Mv n x g rest) (h : WI x so si ss sa) : WI (specG n x g) (soM so g (mvF n g)) (siM n si g (mvF n g)) ss (saM sa g (mvF n g)) := by
  have hidx := M.idx
  have one := M.one
  have hmk := ok_mesh M.ok
  refine WI_move (n := n) h (by rw [M.mesh]; exact hmk) M.mesh.symm M.opens one.i0 one.i9 (by rw [M.lb]; exact hidx.2.1) (by rw [M.lo]; exact hidx.2.2.2.2.2) (by rw [M.la]; exact hidx.2.2.2.1) (fun h4 => ?_) M.hor M.hf rfl M.req (flit_of M.ok one).1
  rw [M.lb]
  exact M.to h4
theorem WX_mv {n x : Net} {so si : Int → FS} {ss : Int → FS} {sa : Int → Int → FS} {g : Grant} {rest : List Flit} (M : Mv n x g rest) (h : WI x so si ss sa) (hx : WX x so si sa) : WX (specG n x g) (soM so g (mvF n g)) (siM n si g (mvF n g)) (saM sa g (mvF n g)) := by
 obtain ⟨r1, r2, r3, r4, r5, r6, r7⟩ := specG_rest n x g
 obtain ⟨b0, b1, n0, n1, g0, g1⟩ := M.idx
 have one := M.one
 have i0 := one.i0; have i9 := one.i9; have q0 := one.p0; have q4 := one.p4
 have hmk : meshOk x.mesh = true := by rw [M.mesh]; exact ok_mesh M.ok
 have hop := M.opens
 have hgo : gOwn n g = if (mvF n g).tail = true then -1 else g.input / 2 := rfl
 have how : ∀ a p c : Int, 0 ≤ a → 0 ≤ p → p ≤ 4 → 0 ≤ c → c ≤ 1 → ownAt (specG n x g) a p c = if a = g.node ∧ p = g.port ∧ c = g.input % 2 then gOwn n g else ownAt x a p c := by
  intro a p c a0 p0 p4 c0 c1
  show ri (specG n x g).owners _ = _
  rw [r7]
  exact ownAt_set g0 (by rw [M.lo]; exact g1) a0 p0 p4 c0 c1 q0 q4
 have hn0 : isNode x.mesh.g g.node = true := by rw [M.mesh]; exact one.nd
 refine ⟨fun a j c t j0 j4 c0 c1 e => ?_, fun a p c t hp c0 c1 e => ?_, fun a p c ha p0 p4 c0 c1 e => ?_, fun a q c ha p0 p3 c0 c1 e => ?_⟩
 ·rw [r1]
  unfold soM at e
  by_cases eb : 10 * a + 2 * j + c = gIdx g
  ·rw [if_pos eb] at e
   have ea : a = g.node ∧ j = g.input / 2 ∧ c = g.input % 2 := by unfold gIdx at eb; omega
   refine ⟨g.port, by rw [ea.1]; exact hop, ?_⟩
   rw [how a g.port c (by omega) q0 q4 c0 c1, if_pos ⟨ea.1, rfl, ea.2.2⟩, hgo, ea.2.1]
   unfold aft at e
   split at e
   ·cases e
   ·rename_i ht; rw [if_neg ht]
  ·rw [if_neg eb] at e
   obtain ⟨p, hp, hj⟩ := hx.cv a j c t j0 j4 c0 c1 e
   refine ⟨p, hp, ?_⟩
   have := isNode_iff.1 hp.1
   rw [how a p c this.1 hp.2.1 hp.2.2.1 c0 c1, if_neg, hj]
   intro e2
   apply eb
   rcases M.req with ⟨_, h2⟩ | ⟨_, h2⟩
   ·rw [← e2.1, ← e2.2.1, ← e2.2.2, hj] at h2; omega
   ·rw [← e2.1, ← e2.2.1, ← e2.2.2, hj] at h2
    unfold gIdx; omega
 ·rw [r1] at hp e
  rw [r1, r2, r3]
  rw [dn_M hmk M.mesh.symm hop i0 hp c0 c1] at e
  by_cases e2 : a = g.node ∧ p = g.port ∧ c = g.input % 2
  ·rw [if_pos e2] at e
   have et : t = fid (mvF n g) := by
    unfold aft at e
    split at e
    ·cases e
    ·exact (Option.some.inj e).symm
   have hfl := (flit_of M.ok one).2
   unfold flitOk at hfl
   rw [Bool.and_eq_true] at hfl
   refine ⟨?_, by rw [et, M.mesh]; exact hfl.1⟩
   cases hh : (mvF n g).head
   ·obtain ⟨k1, k2⟩ := run_cons (by rw [← M.hf]; exact h.buf (gIdx g) b0 (by rw [M.lb]; exact b1))
    have h3 := nx_body k1 hh
    have hown : ownAt x g.node g.port (g.input % 2) = g.input / 2 := by
     rcases M.req with ⟨h4, _⟩ | ⟨_, h4⟩
     ·rw [hh] at h4; cases h4
     ·exact h4
    rcases h.own g.node g.port (g.input % 2) hop (by omega) (by omega) with ⟨o1, o2⟩ | ⟨s, o1, o2, o3⟩
    ·omega
    ·rw [hown, show 10 * g.node + 2 * (g.input / 2) + g.input % 2 = gIdx g by unfold gIdx; omega, h3] at o3
     refine (hx.dr a p c t hp c0 c1 ?_).1
     rw [e2.1, e2.2.1, e2.2.2, o1, ← o3, et]
   ·have := M.head hh
    rw [et, M.mesh, M.pa, M.pb, e2.1, e2.2.1, e2.2.2]
    exact this
  ·rw [if_neg e2] at e
   exact hx.dr a p c t hp c0 c1 e
 ·rw [r1] at ha ⊢
  rw [how a p c (isNode_iff.1 ha).1 p0 p4 c0 c1] at e
  by_cases e2 : a = g.node ∧ p = g.port ∧ c = g.input % 2
  ·rw [e2.1, e2.2.1]; exact hop
  ·rw [if_neg e2] at e
   exact hx.cl a p c ha p0 p4 c0 c1 e
 ·rw [r1] at ha ⊢
  unfold siM at e
  by_cases e2 : g.port ≠ 4 ∧ 10 * a + 2 * q + c = gTo n g
  ·have hl := (one.to M.ok e2.1)
   obtain ⟨t0, t1, t2, t3, t4, t5, t6⟩ := hl
   have eq := opp_eq (p := g.port) q0 (by have := e2.1; omega)
   have ea : a = nextNode n.mesh.g g.node g.port ∧ q = opposite g.port ∧ c = g.input % 2 := by have := e2.2; omega
   have hgeo := geo (g := n.mesh.g) q0 (by have := e2.1; omega) one.nd t3
   rw [M.mesh, ea.1, ea.2.1, hgeo.2.1, hgeo.2.2.1]
   exact ⟨one.nd, (one.live e2.1).1⟩
  ·rw [if_neg e2] at e
   exact hx.bd a q c ha p0 p3 c0 c1 e
theorem WE_step {n : Net} (ok : netOk n = true) (h : WE n) : WE (stepN n) := by
  refine step_ind ok WE h (fun g x rest M hw => ?_) (fun a x rest E hw => ?_) (fun x t hw => ?_)
  · obtain ⟨so, si, ss, sa, hw, hx⟩ := hw
    exact ⟨_, _, _, _, WI_mv M hw, WX_mv M hw hx⟩
  · obtain ⟨so, si, ss, sa, hw, hx⟩ := hw
    refine ⟨_, _, _, _, WI_enter (n := n) hw E.a0 (by rw [E.ls]; exact E.a1) E.hf rfl E.c0 E.c1 (by rw [E.lb]; exact E.t1), ⟨hx.cv, fun y p c t hp c0 c1 e => ?_, hx.cl, fun y q c hy q0 q3 c0 c1 e => ?_⟩⟩
    · have e2 : (enterB n x a).mesh = x.mesh := rfl
      rw [e2] at hp e
      rw [dn_E hp c0 c1 rfl E.c0 E.c1] at e
      exact hx.dr y p c t hp c0 c1 e
    · refine hx.bd y q c hy q0 q3 c0 c1 (fun e2 => e ?_)
      have := E.c0; have := E.c1
      unfold seM
      rw [if_neg (by unfold eTo; omega)]
      exact e2
  · obtain ⟨so, si, ss, sa, hw, hx⟩ := hw
    exact ⟨so, si, ss, sa, ⟨hw.buf, hw.src, hw.arr, hw.loc, hw.own, hw.uniq⟩, ⟨hx.cv, hx.dr, hx.cl, hx.bd⟩⟩
end NoC
namespace Go.Proofs.YtaihmgbflhbebaaGreat
open NoC
theorem newN_own {m : Mesh} {pa pb : List Int} {a p c : Int} (ha : isNode m.g a = true) (p0 : 0 ≤ p) (p4 : p ≤ 4) (c0 : 0 ≤ c) (c1 : c ≤ 1) : ownAt (newN m pa pb) a p c = -1 := by
  have h1 := isNode_iff.1 ha
  have hc := count_nat m.g
  unfold ownAt
  obtain ⟨k, hk⟩ : ∃ k : Nat, 10 * a + 2 * p + c = (k : Int) := ⟨(10 * a + 2 * p + c).toNat, by omega⟩
  rw [hk]
  exact ri_rep (by omega)
theorem WE_new (m : Mesh) (pa pb : List Int) : WE (newN m pa pb) := by
  refine ⟨fun _ => none, fun _ => none, fun _ => none, fun _ _ => none, ⟨fun b _ _ => ?_, fun a _ _ => ?_, fun a c _ _ => ?_, fun _ _ _ _ _ => rfl, fun a p c hp c0 c1 => ?_, fun a p p' c hp hp' c0 c1 h _ => ?_⟩, ⟨fun a j c t _ _ _ _ e => (by cases e), fun a p c t _ _ _ e => (by unfold dn at e; split at e <;> cases e), fun a p c ha p0 p4 c0 c1 e => absurd (newN_own (m := m) (pa := pa) (pb := pb) ha p0 p4 c0 c1) e, fun a q c _ _ _ _ _ e => absurd rfl e⟩⟩
  · rw [show rl (newN m pa pb).bufs b = [] from rl_replicate _ _]; rfl
  · rw [show rl (newN m pa pb).srcs a = [] from rl_replicate _ _]; rfl
  · rw [show rl (newN m pa pb).arrs a = [] from rl_replicate _ _]; rfl
  · left
    exact ⟨newN_own (m := m) (pa := pa) (pb := pb) hp.1 hp.2.1 hp.2.2.1 c0 c1, by unfold dn; split <;> rfl⟩
  · exfalso
    rw [newN_own (m := m) (pa := pa) (pb := pb) hp.1 hp.2.1 hp.2.2.1 c0 c1] at h
    omega
theorem run_flits {p : Packet} (h1 : 1 ≤ p.len) : ∀ k : Nat, (k : Int) ≤ p.len → runF none (flitsTo p k) = some (if k = 0 ∨ (k : Int) = p.len then none else some (p.id, p.dst, p.cls)) := by
  intro k
  induction k with
  | zero => intro _; simp [flitsTo, runF]
  | succ k ih =>
    intro hk
    rw [flitsTo_succ, run_snoc _ _ _ _ (ih (by omega))]
    have hx : nx (if k = 0 ∨ (k : Int) = p.len then none else some (p.id, p.dst, p.cls)) (flitAt p k) = some (aft (flitAt p k)) := by
      refine nx_of (fun hh => ?_) (fun hh => ?_)
      · have : (k : Int) = 0 := by simpa [flitAt] using hh
        rw [if_pos (.inl (by omega))]
      · have h0 : ¬ (k : Int) = 0 := by simpa [flitAt] using hh
        rw [if_neg (by omega)]
        rfl
    rw [hx]
    unfold aft flitAt fid
    by_cases e : (k : Int) = p.len - 1
    · rw [if_pos (by simpa using e), if_pos (.inr (by push_cast; omega))]
    · rw [if_neg (by simp [e]), if_neg (fun h9 => by
        rcases h9 with h9 | h9
        · omega
        · push_cast at h9
          omega)]
theorem WE_send {n : Net} {p : Packet} (h : WE n) (hs : sendOk n p = true) (ok : netOk n = true) : WE (sendN n p) := by
  obtain ⟨so, si, ss, sa, hw, hx⟩ := h
  simp only [sendOk, Bool.and_eq_true] at hs
  have hp := hs.1
  obtain ⟨nd, _, _, _, l1, l5⟩ := packet_parts hp
  have nd1 := isNode_iff.1 nd
  obtain ⟨_, _, _, _, hsl, _⟩ := netOk_parts ok
  refine ⟨so, si, ss, sa, ⟨hw.buf, fun a a0 a1 => ?_, hw.arr, hw.loc, hw.own, hw.uniq⟩, ⟨hx.cv, hx.dr, hx.cl, hx.bd⟩⟩
  have e1 : (sendN n p).srcs = n.srcs.set p.src.toNat (rl n.srcs p.src ++ flitsOf n.mesh.g p) := rfl
  rw [e1] at a1 ⊢
  rw [List.length_set] at a1
  rw [rl_setI nd1.1 (by omega) a a0]
  by_cases e : a = p.src
  · rw [if_pos e, run_app _ _ _ _ (by rw [← e]; exact hw.src a a0 a1), flitsOf_yes hp, run_flits l1 _ (by omega)]
    rw [if_pos (.inr (by omega))]
  · rw [if_neg e]
    exact hw.src a a0 a1
theorem WE_snd {n : Net} {p : Packet} (h : WE n) (ok : netOk n = true) : WE (sndN n p) := by
  unfold sndN
  split
  · rename_i hs; exact WE_send h hs ok
  · exact h
theorem WE_sndTo {n : Net} (h : WE n) (ok : netOk n = true) (l : List Packet) : ∀ k, WE (sndTo n l k) := by
  intro k
  induction k with
  | zero => exact h
  | succ k ih => exact WE_snd ih (sndTo_ok ok l k)
theorem WE_sendAll {n : Net} (h : WE n) (l : List Packet) : WE (sendAllN n l) := by
  unfold sendAllN
  split
  · rename_i hc
    simp only [canAll, Bool.and_eq_true] at hc
    exact WE_sndTo h hc.1 l _
  · exact h
theorem WE_run {n : Net} (ok : netOk n = true) (h : WE n) : ∀ k : Nat, n.time + k ≤ 1000000 → WE (runN n k) := by
  intro k
  induction k with
  | zero => intro _; exact h
  | succ k ih =>
    intro hk
    exact WE_step (runN_ok ok k (by omega)) (ih (by omega))
end Go.Proofs.YtaihmgbflhbebaaGreat
namespace Go.Proofs.YtaihmgbflhbebaaGreat
open Go.RowKit Go.Proofs.YtaihmgbflhbebaaGreatW.PrintWords
open NoC
theorem laws_big (A : Option Addr) (N c : Nat) (w : World) : Calls Tryz.prog 10 #[.slice A N c] w fun e w' => e = .returned (.bool (decide ((1048576 : Int) < (N : Int)))) ∧ w = w' := by
  go_enter Tryz.func10, Tryz.ntmps10
  go_wp2
  go_ret
  exact ⟨rfl, rfl⟩
theorem NetR.time {e : Nat} {w : World} {n : Net} {t : Int} {q : NA} (h : NetR e w { n with time := t } q) : NetR e w n q := ⟨h.br, h.pa, h.pb, h.bufs, h.owners, h.turns, h.srcs, h.arrs, h.h1, h.h2, h.h3, h.h4, h.h5, h.h6, h.h7, h.h8, h.h9, h.h10, h.h11⟩
def Plc (w : World) (b off : Nat) (x0 x1 x2 : Int) : Prop := b < w.heap.size ∧ w.cell? ⟨b, off, none⟩ = some (.int .i64 x0) ∧ w.cell? ⟨b, off + 1, none⟩ = some (.int .i64 x1) ∧ w.cell? ⟨b, off + 2, none⟩ = some (.int .i64 x2)
theorem Plc.below {w w1 : World} {b off : Nat} {x0 x1 x2 : Int} (h : Plc w b off x0 x1 x2) (hb : Below w.heap.size w w1) : Plc w1 b off x0 x1 x2 :=
  ⟨Nat.lt_of_lt_of_le h.1 hb.size, ((bcell hb).1 b off h.1).trans h.2.1, ((bcell hb).1 b (off + 1) h.1).trans h.2.2.1, ((bcell hb).1 b (off + 2) h.1).trans h.2.2.2⟩
theorem places3 {w w' : World} {xs : List Int} {e : Ending} (h : GotI w w' xs e) (hl : xs.length = 12) (hr : ∀ j : Nat, j < 12 → 0 ≤ ri xs j ∧ ri xs j ≤ 9999) :
    ∃ b off c x0 x1 x2, e = .returned (.slice (some ⟨b, off, none⟩) 12 c) ∧ Plc w' b off x0 x1 x2 ∧ 0 ≤ x0 ∧ x0 ≤ 9999 ∧ 0 ≤ x1 ∧ x1 ≤ 9999 ∧ 0 ≤ x2 ∧ x2 ≤ 9999 := by
  obtain ⟨A, c, rfl, hk, hC⟩ := h.read
  obtain ⟨b, off, rfl, hb, hx⟩ := rdI_at hC 0 (by omega)
  have h0 := hr 0 (by decide)
  have h1 := hr 1 (by decide)
  have h2 := hr 2 (by decide)
  exact ⟨b, off, c, ri xs (0 : Nat), ri xs (1 : Nat), ri xs (2 : Nat), by rw [hl], ⟨hb, hx 0 (by omega), hx 1 (by omega), hx 2 (by omega)⟩, h0.1, h0.2, h1.1, h1.2, h2.1, h2.2⟩
theorem DrN.facts {n : Net} (h : DrN n) : netOk n = true ∧ WE n ∧ 0 ≤ n.time ∧ n.time ≤ 11 ∧ (∀ x ∈ n.arrs, x.length ≤ 1048576) ∧ ∃ g : Grid, n.mesh = ⟨g, []⟩ ∧ 2 ≤ nodeCount g := by
  obtain ⟨g, r, s, l, k, hg, hr, hd, hk, rfl⟩ := h
  have ok0 := newN_ok (std_classes (r := r) (s := s) ⟨hg.1, hg.2.1, hg.2.2.1, hg.2.2.2.1⟩ hr)
  have ok1 := sendAll_ok ok0 l
  obtain ⟨e1, e2, e3, e4, e5, e6⟩ := sendAll_rest (newN ⟨g, []⟩ (makeT g r) (makeT g s)) l
  have t0 : (newN ⟨g, []⟩ (makeT g r) (makeT g s)).time = 0 := rfl
  have w1 := WE_sendAll (WE_new ⟨g, []⟩ (makeT g r) (makeT g s)) l
  obtain ⟨n1, hn1⟩ : ∃ z, sendAllN (newN ⟨g, []⟩ (makeT g r) (makeT g s)) l = z := ⟨_, rfl⟩
  rw [hn1] at ok1 e1 e2 e3 w1 ⊢
  have ht : (runN n1 k).time = k := by rw [runN_time, e1, t0]; omega
  refine ⟨runN_ok ok1 k (by rw [e1, t0]; omega), WE_run ok1 w1 k (by rw [e1, t0]; omega), by rw [ht]; omega, by rw [ht]; omega, fun x hx => ?_, g, ?_, hg.2.2.2.2⟩
  · obtain ⟨i, hi, rfl⟩ := rl_of_mem hx
    have h1 := run_arrs n1 i k
    have h2 : (rl n1.arrs i).length = 0 := by
      rw [e2]
      have : rl (newN ⟨g, []⟩ (makeT g r) (makeT g s)).arrs i = [] := rl_replicate _ _
      rw [this]; rfl
    omega
  · rw [(run_parts n1 k).1, e3]; rfl
theorem DrN.arrs {n : Net} (h : DrN n) : ∀ i : Nat, (rl n.arrs i).length ≤ 880 := by
  obtain ⟨g, r, s, l, k, hg, hr, hd, hk, rfl⟩ := h
  intro i
  have h1 := run_arrs (sendAllN (newN ⟨g, []⟩ (makeT g r) (makeT g s)) l) i k
  have h2 : (rl (sendAllN (newN ⟨g, []⟩ (makeT g r) (makeT g s)) l).arrs i).length = 0 := by
    rw [(sendAll_rest _ l).2.1]
    have : rl (newN ⟨g, []⟩ (makeT g r) (makeT g s)).arrs i = [] := rl_replicate _ _
    rw [this]; rfl
  omega
theorem C_two (W : World) (y z : Int) : Kd.C (Kd.int .i64) (W.alloc (.cells #[.int .i64 y, .int .i64 z] 3)) (some ⟨W.heap.size, 0, none⟩) 2 [y, z] := by
  have hb : Box (W.alloc (.cells #[.int .i64 y, .int .i64 z] 3)) W.heap.size #[.int .i64 y, .int .i64 z] := Box.new W _ _ _ rfl
  refine ⟨rfl, by simp, fun _ => ⟨_, rfl, fun j p hj => ⟨[.int .i64 p], rfl, rfl, fun i u hu => ?_⟩⟩⟩
  have hi : i = 0 := by
    have := (List.getElem?_eq_some_iff.1 hu).1
    simp at this
    exact this
  subst hi
  simp only [List.getElem?_cons_zero, Option.some.injEq] at hu
  subst hu
  have hj2 : j = 0 ∨ j = 1 := by
    have := (List.getElem?_eq_some_iff.1 hj).1
    simp at this
    omega
  rcases hj2 with rfl | rfl
  · simp only [List.getElem?_cons_zero, Option.some.injEq] at hj
    subst hj
    exact hb.get 0
  · simp only [List.getElem?_cons_succ, List.getElem?_cons_zero, Option.some.injEq] at hj
    subst hj
    exact hb.get 1
theorem app_int2 {ops : Array Oper} {rest : List Oper} {o : Oper} {a : Act} {Q : Exit → Act → World → Prop} {W0 W : World} (hgd : o.guard = none) (s x : Operand)
    (ho : o.op = .call { callee := .builtin .append, args := #[s, x], argTypes := #[26, 26] })
    (v : Value) (xs : List Int) (y z : Int) (hs : a.eval s = v) (hx : a.eval x = .slice (some ⟨W.heap.size, 0, none⟩) 2 2)
    (HO : Kd.R (Kd.int .i64) 3 W W0.heap.size (fun _ => True) v xs) (HB : Below W0.heap.size W0 W) (hl : xs.length ≤ 1000000)
    (h : ∀ v1 w1, Kd.R (Kd.int .i64) 3 w1 W0.heap.size (fun _ => True) v1 (xs ++ [y, z]) → Below W0.heap.size W0 w1 → wpList Tryz.prog ops Q rest (a.put o.dst v1) w1) :
    wpList Tryz.prog ops Q (o :: rest) a (W.alloc (.cells #[.int .i64 y, .int .i64 z] 3)) :=
  Kd.R_append_rows (Kd.int .i64) (w0 := W0) W0.heap.size hgd s x 26 3 (.int .i64 0) 8 ho Tryz.underlying26 info_int rfl (by decide) (by omega) v xs [y, z] (some ⟨W.heap.size, 0, none⟩) 2 2 (fun _ => True) (fun _ => False) hs hx (Kd.R_below HO (bw_alloc _ (bw_refl W))) (C_two W y z) (fun _ _ h => h) (fun _ hk => hk.elim) (fun _ _ => trivial) (bw_alloc _ HB) (Nat.le_trans HB.size (by simp only [szs]; omega)) (by omega) (fun v1 w1 h1 h2 _ _ => h v1 w1 h1 h2)
set_option maxHeartbeats 4000000 in
theorem impl_credit (n : Net) (q : NA) (bx : Nat) (a p c : Int) (w : World) (hr : NetR 80 w n q) (hx : Box w bx (netCells n q)) (ok : netOk n = true) (nd : isNode n.mesh.g a = true) (p0 : 0 ≤ p) (p3 : p ≤ 3) (g0 : 0 ≤ c) (g1 : c ≤ 1) :
    Calls Tryz.prog 83 #[.pointer (some ⟨bx, 0, none⟩), .int .i64 a, .int .i64 p, .int .i64 c] w fun e w' => e = .returned (.int .i64 (creditN n a p c)) ∧ Below w.heap.size w w' := by
  have R := Lib.hid hr
  have X := Lib.hid hx
  have OK := Lib.hid ok
  have ND := Lib.hid nd
  have NBQ := Lib.hid hr.h9
  clear ok nd
  obtain ⟨a1, a2, a3, a4, a5, a6, a7, a8, c1, c2, c3, c4, c5, c6, c7, c8⟩ := q; obtain ⟨Rbr, Rpa, Rpb, Rbu, Row, Rtu, Rso, Rar, L1, L2, L3, L4, L5, L6, L7, L8, L9, L10, L11⟩ := hr; have M9 := Lib.hid L9; have M10 := Lib.hid L10; have M11 := Lib.hid L11; clear L9 L10 L11; dsimp only [netCells] at *
  have xl := hx.lt; have x0 : w.cell? ⟨bx, 0, none⟩ = some (.int .i64 n.mesh.g.w) := hx.get 0; have x1 : w.cell? ⟨bx, 1, none⟩ = some (.int .i64 n.mesh.g.h) := hx.get 1; have x2 : w.cell? ⟨bx, 2, none⟩ = some (.slice a1 n.mesh.br.length c1) := hx.get 2; have x3 : w.cell? ⟨bx, 3, none⟩ = some (.slice a2 n.pa.length c2) := hx.get 3; have x4 : w.cell? ⟨bx, 4, none⟩ = some (.slice a3 n.pb.length c3) := hx.get 4; have x5 : w.cell? ⟨bx, 5, none⟩ = some (.slice a4 n.bufs.length c4) := hx.get 5; have x6 : w.cell? ⟨bx, 6, none⟩ = some (.slice a5 n.owners.length c5) := hx.get 6; have x7 : w.cell? ⟨bx, 7, none⟩ = some (.slice a6 n.turns.length c6) := hx.get 7; have x8 : w.cell? ⟨bx, 8, none⟩ = some (.slice a7 n.srcs.length c7) := hx.get 8; have x9 : w.cell? ⟨bx, 9, none⟩ = some (.slice a8 n.arrs.length c8) := hx.get 9; have x10 : w.cell? ⟨bx, 10, none⟩ = some (.int .i64 n.time) := hx.get 10; clear hx
  cases hl : live n.mesh (4 * a + p)
  · have HB : Hid (behindN n a p c = -1) := Lib.hid (by rw [behindN, if_neg (by omega), if_neg (by simp [hl])])
    have HE : Hid (creditN n a p c = -1) := Lib.hid (by unfold creditN; rw [HB.out]; rfl)
    go_enter Tryz.func83, Tryz.ntmps83
    go_wp2_with (go_at_call 73; refine (impl_behind n _ bx a p c _ R.out X.out OK.out ND.out p0 (by omega) g0 g1).mono ?_; rintro e w1 ⟨he, hb1⟩; rw [HB.out] at he; subst he; obtain ⟨hc1, hf1, hz1⟩ := bcell hb1; (try simp only [szs] at hz1); have hb2 := far2; obtain ⟨hc2, hf2, hz2⟩ := bcell hb2; (try simp only [szs] at hz2); try (first | obtain ⟨hy1, hy2, hy3, hy4⟩ := lts4 hz2 | obtain ⟨hy1, hy2, hy3⟩ := lts3 hz2 | obtain ⟨hy1, hy2⟩ := lts2 hz2 | have hy1 := lts1 hz2); have hb9 := hb1)
    go_ret
    exact ⟨ret_int HE.out.symm, bel⟩
  · have HB : Hid (behindN n a p c = behindI n a p c) := Lib.hid (by rw [behindN, if_neg (by omega), if_pos hl])
    obtain ⟨_, _, _, _, _, v4, v5⟩ := behind_idx (c := c) OK.out p0 p3 hl g0 g1
    obtain ⟨t, ht⟩ : ∃ t, behindI n a p c = t := ⟨_, rfl⟩
    rw [ht] at HB v4 v5
    clear ht
    have HE : Hid (creditN n a p c = 3 - ((rl n.bufs t).length : Int)) := Lib.hid (by unfold creditN; rw [HB.out, if_neg (by omega)])
    have hlen : (rl n.bufs t).length ≤ 2097152 := by
      have := NBQ.out (rl n.bufs ((t.toNat : Nat) : Int)) (rl_mem (by omega))
      rwa [Int.toNat_of_nonneg v4] at this
    obtain ⟨b, off, rfl, hb, Ai, ci, r0, hle, hCi⟩ := rdB_int Rbu t v4 v5
    go_enter Tryz.func83, Tryz.ntmps83
    go_wp2_with (go_at_call 73; refine (impl_behind n _ bx a p c _ R.out X.out OK.out ND.out p0 (by omega) g0 g1).mono ?_; rintro e w1 ⟨he, hb1⟩; rw [HB.out] at he; subst he; obtain ⟨hc1, hf1, hz1⟩ := bcell hb1; (try simp only [szs] at hz1); have hb2 := far2; obtain ⟨hc2, hf2, hz2⟩ := bcell hb2; (try simp only [szs] at hz2); try (first | obtain ⟨hy1, hy2, hy3, hy4⟩ := lts4 hz2 | obtain ⟨hy1, hy2, hy3⟩ := lts3 hz2 | obtain ⟨hy1, hy2⟩ := lts2 hz2 | have hy1 := lts1 hz2); have hb9 := hb1)
    go_ret
    exact ⟨ret_int HE.out.symm, bel⟩
theorem credits_two {n : Net} {k : Nat} {y z : Int} (h1 : creditN n ((k / 4 : Nat) : Int) ((k % 4 : Nat) : Int) 0 = y) (h2 : creditN n ((k / 4 : Nat) : Int) ((k % 4 : Nat) : Int) 1 = z) : creditsTo n (2 * (k + 1)) = creditsTo n (2 * k) ++ [y, z] := by
  have e : 2 * (k + 1) = (2 * k + 1) + 1 := by omega
  rw [e, creditsTo_succ, creditsTo_succ, List.append_assoc]
  have e1 : creditAt n (2 * k) = y := by
    unfold creditAt
    rw [show 2 * k / 8 = k / 4 by omega, show 2 * k / 2 % 4 = k % 4 by omega, show 2 * k % 2 = 0 by omega]
    exact h1
  have e2 : creditAt n (2 * k + 1) = z := by
    unfold creditAt
    rw [show (2 * k + 1) / 8 = k / 4 by omega, show (2 * k + 1) / 2 % 4 = k % 4 by omega, show (2 * k + 1) % 2 = 1 by omega]
    exact h2
  rw [e1, e2]
  rfl
set_option maxHeartbeats 4000000 in
theorem impl_credits (n : Net) (q : NA) (bx : Nat) (w : World) (hr : NetR 80 w n q) (hx : Box w bx (netCells n q)) (ok : netOk n = true) :
    Calls Tryz.prog 56 #[.pointer (some ⟨bx, 0, none⟩)] w fun e w' => GotI w w' (creditsN n) e ∧ Below w.heap.size w w' := by
  have R := Lib.hid hr
  have X := Lib.hid hx
  have OK := Lib.hid ok
  obtain ⟨_, _, _, _, hs4, _⟩ := netOk_parts ok
  have hc16 := count_le n.mesh.g
  obtain ⟨K, hK⟩ : ∃ K : Nat, nodeCount n.mesh.g = (K : Int) := ⟨(nodeCount n.mesh.g).toNat, by omega⟩
  have HE : Hid (creditsN n = creditsTo n (2 * (4 * K))) := Lib.hid (by unfold creditsN; rw [hK, Int.toNat_natCast, show 2 * (4 * K) = 8 * K by omega])
  have HND : Hid (∀ k : Nat, k < 4 * K → isNode n.mesh.g ((k / 4 : Nat) : Int) = true) := Lib.hid (fun k hk => isNode_iff.2 ⟨by omega, by omega⟩)
  have HS4 : Hid (n.srcs.length = K) := Lib.hid (by omega)
  have K16 : K ≤ 16 := by omega
  clear hr ok hs4 hc16 hK
  obtain ⟨a1, a2, a3, a4, a5, a6, a7, a8, c1, c2, c3, c4, c5, c6, c7, c8⟩ := q
  dsimp only [netCells] at hx
  have x8 : w.cell? ⟨bx, 8, none⟩ = some (.slice a7 n.srcs.length c7) := hx.get 8
  have xl := hx.lt
  rw [HS4.out] at x8
  clear hx
  rw [HE.out]
  go_enter Tryz.func56, Tryz.ntmps56
  go_wp2
  go_loopw [3, 12] (fun v j wr => ∃ k : Nat, j = .int .i64 k ∧ k ≤ 4 * K ∧ Kd.R (Kd.int .i64) 3 wr w.heap.size (fun _ => True) v (creditsTo n (2 * k)) ∧ Below w.heap.size w wr) (fun _ j _ => 4 * K - (intOf j).toNat)
  case atStart => exact ⟨0, rfl, Nat.zero_le _, R_empty (W0 := w) _ _ (bw_size bel), bel⟩
  case round =>
    obtain ⟨k, rfl, hk, HO, HB⟩ := hrel
    obtain ⟨Ao, co, rfl⟩ := Kd.R_slice HO
    have hlen := creditsTo_len n (2 * k)
    have hlen2 : (creditsTo n (2 * k)).length ≤ 1000 := by omega
    clear hlen
    obtain ⟨hcr, hfr, hzr⟩ := bcell HB
    by_cases hlt : k < 4 * K
    · have i0 : (k : Int) < 4 * (K : Int) := by omega
      obtain ⟨y, hy⟩ : ∃ y, creditN n ((k / 4 : Nat) : Int) ((k % 4 : Nat) : Int) 0 = y := ⟨_, rfl⟩
      obtain ⟨z, hz⟩ : ∃ z, creditN n ((k / 4 : Nat) : Int) ((k % 4 : Nat) : Int) 1 = z := ⟨_, rfl⟩
      have HS := Lib.hid (credits_two hy hz)
      have HY : Hid (∀ W, Below w.heap.size w W → Calls Tryz.prog 83 #[.pointer (some ⟨bx, 0, none⟩), .int .i64 ((k : Int) / 4), .int .i64 ((k : Int) % 4), .int .i64 0] W fun e w' => e = .returned (.int .i64 y) ∧ Below W.heap.size W w') := Lib.hid (fun W hW => by
        have h := impl_credit n _ bx ((k / 4 : Nat) : Int) ((k % 4 : Nat) : Int) 0 W (R.out.below hW) (X.out.below hW) OK.out (HND.out k hlt) (by omega) (by omega) (by omega) (by omega)
        rw [hy] at h
        exact h)
      have HZ : Hid (∀ W, Below w.heap.size w W → Calls Tryz.prog 83 #[.pointer (some ⟨bx, 0, none⟩), .int .i64 ((k : Int) / 4), .int .i64 ((k : Int) % 4), .int .i64 1] W fun e w' => e = .returned (.int .i64 z) ∧ Below W.heap.size W w') := Lib.hid (fun W hW => by
        have h := impl_credit n _ bx ((k / 4 : Nat) : Int) ((k % 4 : Nat) : Int) 1 W (R.out.below hW) (X.out.below hW) OK.out (HND.out k hlt) (by omega) (by omega) (by omega) (by omega)
        rw [hz] at h
        exact h)
      clear hy hz
      go_wp2_with fail
      refine (HY.out _ HB).mono ?_
      rintro e w2 ⟨rfl, hb2⟩
      have HB2 := bw_then HB hb2
      have HO2 := Kd.R_below HO hb2
      clear hcr hfr hzr
      obtain ⟨hcr, hfr, hzr⟩ := bcell HB2
      go_wp2_with fail
      refine (HZ.out _ HB2).mono ?_
      rintro e w3 ⟨rfl, hb3⟩
      have HB3 := bw_then HB2 hb3
      have HO3 := Kd.R_below HO2 hb3
      clear hcr hfr hzr
      obtain ⟨hcr, hfr, hzr⟩ := bcell HB3
      go_wp2_with (at_builtin; refine app_int2 (W0 := w) rfl (.tmp 15) (.tmp 28) rfl _ (creditsTo n (2 * k)) y z rfl rfl HO3 HB3 (by omega) ?_; intro v1 w1 HO1 hb1)
      go_roundw
      case rel => exact ⟨k + 1, by go_num, by omega, by rw [HS.out]; exact HO1, hb1⟩
      case measure => simp [intOf]; omega
    · have i0 : ¬ (k : Int) < 4 * (K : Int) := by omega
      obtain rfl : k = 4 * K := by omega
      go_wp2
      go_ret
      exact ⟨⟨_, rfl, (by exact Kd.R_below HO bel)⟩, bel⟩
end Go.Proofs.YtaihmgbflhbebaaGreat
namespace Go.Proofs.YtaihmgbflhbebaaGreat
open NoC
def caTo (n : Net) (k : Nat) : List Int := ((allGrants n).take k).foldl (implC n) (creditsN n)
theorem rg_at3 (l : List Grant) (k : Nat) (h : k < l.length) : rg l (k : Int) = l[k] := by simp [rg, List.getD_eq_getElem?_getD, h]
theorem caTo_succ (n : Net) {k : Nat} (h : k < (allGrants n).length) : caTo n (k + 1) = implC n (caTo n k) (rg (allGrants n) k) := by
  unfold caTo
  rw [List.take_succ_eq_append_getElem h, List.foldl_append, rg_at3 _ k h]
  rfl
theorem caTo_all (n : Net) : caTo n (allGrants n).length = creditsAfterN n := by unfold caTo creditsAfterN; rw [List.take_length]
theorem foldC_len (n : Net) : ∀ (gs : List Grant) (l : List Int), (gs.foldl (implC n) l).length = l.length := by
  intro gs
  induction gs with
  | nil => intro l; rfl
  | cons g gs ih => intro l; show (gs.foldl (implC n) (implC n l g)).length = _; rw [ih, implC_len]
theorem caTo_len (n : Net) (k : Nat) : ((caTo n k).length : Int) = 8 * nodeCount n.mesh.g := by
  unfold caTo
  rw [foldC_len]
  unfold creditsN
  rw [creditsTo_len]
  have := count_nat n.mesh.g
  omega
def Bd (b : Int) (l : List Int) : Prop := ∀ j : Int, -b ≤ ri l j ∧ ri l j ≤ b
theorem ri_any (l : List Int) (k : Nat) (v : Int) (j : Int) : ri (l.set k v) j = if k = j.toNat ∧ j.toNat < l.length then v else ri l j := by
  unfold ri
  rw [List.getD_eq_getElem?_getD, List.getD_eq_getElem?_getD, List.getElem?_set]
  by_cases e : k = j.toNat
  · by_cases h : j.toNat < l.length
    · rw [if_pos e, if_pos (by omega), if_pos ⟨e, h⟩]; rfl
    · rw [if_pos e, if_neg (by omega), if_neg (fun e2 => h e2.2), List.getElem?_eq_none (by omega)]
  · rw [if_neg e, if_neg (fun e2 => e e2.1)]
theorem chgC_bd {b : Int} {l : List Int} (h : Bd b l) (h0 : 0 ≤ b) (k d : Int) (d0 : -1 ≤ d) (d1 : d ≤ 1) : Bd (b + 1) (chgC l k d) := by
  intro j
  have h1 := h j
  have h2 := h k
  unfold chgC
  split
  · omega
  · rw [ri_any]
    split <;> omega
theorem implC_bd {b : Int} {n : Net} {l : List Int} {g : Grant} (h : Bd b l) (h0 : 0 ≤ b) : Bd (b + 2) (implC n l g) := by
  have h1 : Bd (b + 1) (if g.port = 4 then l else chgC l (decK g) (-1)) := by
    split
    · intro j; have := h j; omega
    · exact chgC_bd h h0 _ _ (by omega) (by omega)
  unfold implC incC
  split
  · have := chgC_bd h1 (by omega) (incK n g) 1 (by omega) (by omega)
    intro j
    have := this j
    omega
  · intro j
    have := h1 j
    omega
theorem credits_bd {n : Net} (ok : netOk n = true) : Bd 3 (creditsN n) := by
  intro j
  by_cases hj : j.toNat < (creditsN n).length
  · have e : ri (creditsN n) j = ri (creditsN n) ((j.toNat : Nat) : Int) := by unfold ri; rw [Int.toNat_natCast]
    rw [e]
    unfold creditsN at hj ⊢
    rw [creditsTo_len] at hj
    rw [creditsTo_get n hj]
    unfold creditAt creditN
    split
    · omega
    · rename_i h
      obtain ⟨t, ht⟩ : ∃ t, behindN n ((j.toNat / 8 : Nat) : Int) ((j.toNat / 2 % 4 : Nat) : Int) ((j.toNat % 2 : Nat) : Int) = t := ⟨_, rfl⟩
      rw [ht] at h ⊢
      have hl : (rl n.bufs t).length ≤ 3 := by
        by_cases hb : t.toNat < n.bufs.length
        · obtain ⟨_, _, _, _, _, _, hbb, _⟩ := netOk_parts ok
          have := hbb t.toNat hb
          rw [Int.toNat_of_nonneg (by omega)] at this
          simp only [bufOk, Bool.and_eq_true, decide_eq_true_eq] at this
          exact this.1.1
        · have e2 : rl n.bufs t = [] := by simp [rl, List.getD_eq_getElem?_getD, hb]
          rw [e2]; simp
      omega
  · have e : ri (creditsN n) j = 0 := by simp [ri, List.getD_eq_getElem?_getD, hj]
    rw [e]
    omega
theorem caTo_bd {n : Net} (ok : netOk n = true) : ∀ k : Nat, k ≤ (allGrants n).length → Bd (3 + 2 * k) (caTo n k) := by
  intro k
  induction k with
  | zero =>
    intro _ j
    have := credits_bd ok j
    have e : caTo n 0 = creditsN n := rfl
    rw [e]
    omega
  | succ k ih =>
    intro hk
    rw [caTo_succ n (by omega)]
    intro j
    have := implC_bd (n := n) (g := rg (allGrants n) k) (ih (by omega)) (by omega) j
    push_cast
    omega
end Go.Proofs.YtaihmgbflhbebaaGreat
namespace Go.Proofs.YtaihmgbflhbebaaGreat
open Go.RowKit Go.Proofs.YtaihmgbflhbebaaGreatW.PrintWords
open NoC
def cntN (n : Net) (l : List (List Flit)) : Int := if netOk n = true then ((totTo l l.length : Nat) : Int) else -1
set_option maxHeartbeats 4000000 in
set_option maxRecDepth 100000 in
theorem impl_FlitsInside (n : Net) (q : NA) (w : World) (hr : NetR 80 w n q) : Calls Tryz.prog 14 #[.agg (netCells n q)] w fun e w' => e = .returned (.int .i64 (cntN n n.bufs)) ∧ Below w.heap.size w w' := by
  have R := Lib.hid hr
  have HM : Hid (∀ x ∈ n.bufs, x.length ≤ 2097152) := Lib.hid hr.h9
  have HN := hr.h4
  have HF := Lib.hid hr.bufs
  obtain ⟨a1, a2, a3, a4, a5, a6, a7, a8, c1, c2, c3, c4, c5, c6, c7, c8⟩ := q
  clear hr
  dsimp only [netCells]
  cases hk : netOk n
  · have HE : Hid (cntN n n.bufs = -1) := Lib.hid (by rw [cntN, if_neg (by simp [hk])])
    go_enter Tryz.func14, Tryz.ntmps14
    go_wp2_with (go_at_call 21; refine (impl_NetOk n _ _ (R.out.below bel)).mono ?_; rintro e w1 ⟨rfl, hb1⟩; obtain ⟨hc1, hf1, hz1⟩ := bcell hb1; (try simp only [szs] at hz1); have hb2 := far2; obtain ⟨hc2, hf2, hz2⟩ := bcell hb2; (try simp only [szs] at hz2); try (first | obtain ⟨hy1, hy2, hy3, hy4⟩ := lts4 hz2 | obtain ⟨hy1, hy2, hy3⟩ := lts3 hz2 | obtain ⟨hy1, hy2⟩ := lts2 hz2 | have hy1 := lts1 hz2); have hb9 := hb1)
    go_ret
    exact ⟨ret_int HE.out.symm, bel⟩
  · have HE : Hid (cntN n n.bufs = ((totTo n.bufs n.bufs.length : Nat) : Int)) := Lib.hid (by rw [cntN, if_pos hk])
    go_enter Tryz.func14, Tryz.ntmps14
    go_wp2_with (first | (go_at_call 21; refine (impl_NetOk n _ _ (R.out.below bel)).mono ?_; rintro e w1 ⟨rfl, hb1⟩; obtain ⟨hc1, hf1, hz1⟩ := bcell hb1; (try simp only [szs] at hz1); have hb2 := far2; obtain ⟨hc2, hf2, hz2⟩ := bcell hb2; (try simp only [szs] at hz2); try (first | obtain ⟨hy1, hy2, hy3, hy4⟩ := lts4 hz2 | obtain ⟨hy1, hy2, hy3⟩ := lts3 hz2 | obtain ⟨hy1, hy2⟩ := lts2 hz2 | have hy1 := lts1 hz2); have hb9 := hb1) | (go_at_call 40; refine (impl_flitsIn n.bufs _ _ _ (by exact Kd.C_below HF.out bel) HN HM).mono ?_; rintro e w' ⟨rfl, rfl⟩))
    go_ret
    exact ⟨ret_int HE.out.symm, bel⟩
set_option maxHeartbeats 4000000 in
set_option maxRecDepth 100000 in
theorem impl_FlitsWaiting (n : Net) (q : NA) (w : World) (hr : NetR 80 w n q) : Calls Tryz.prog 15 #[.agg (netCells n q)] w fun e w' => e = .returned (.int .i64 (cntN n n.srcs)) ∧ Below w.heap.size w w' := by
  have R := Lib.hid hr
  have HM : Hid (∀ x ∈ n.srcs, x.length ≤ 2097152) := Lib.hid hr.h10
  have HN := hr.h7
  have HF := Lib.hid hr.srcs
  obtain ⟨a1, a2, a3, a4, a5, a6, a7, a8, c1, c2, c3, c4, c5, c6, c7, c8⟩ := q
  clear hr
  dsimp only [netCells]
  cases hk : netOk n
  · have HE : Hid (cntN n n.srcs = -1) := Lib.hid (by rw [cntN, if_neg (by simp [hk])])
    go_enter Tryz.func15, Tryz.ntmps15
    go_wp2_with (go_at_call 21; refine (impl_NetOk n _ _ (R.out.below bel)).mono ?_; rintro e w1 ⟨rfl, hb1⟩; obtain ⟨hc1, hf1, hz1⟩ := bcell hb1; (try simp only [szs] at hz1); have hb2 := far2; obtain ⟨hc2, hf2, hz2⟩ := bcell hb2; (try simp only [szs] at hz2); try (first | obtain ⟨hy1, hy2, hy3, hy4⟩ := lts4 hz2 | obtain ⟨hy1, hy2, hy3⟩ := lts3 hz2 | obtain ⟨hy1, hy2⟩ := lts2 hz2 | have hy1 := lts1 hz2); have hb9 := hb1)
    go_ret
    exact ⟨ret_int HE.out.symm, bel⟩
  · have HE : Hid (cntN n n.srcs = ((totTo n.srcs n.srcs.length : Nat) : Int)) := Lib.hid (by rw [cntN, if_pos hk])
    go_enter Tryz.func15, Tryz.ntmps15
    go_wp2_with (first | (go_at_call 21; refine (impl_NetOk n _ _ (R.out.below bel)).mono ?_; rintro e w1 ⟨rfl, hb1⟩; obtain ⟨hc1, hf1, hz1⟩ := bcell hb1; (try simp only [szs] at hz1); have hb2 := far2; obtain ⟨hc2, hf2, hz2⟩ := bcell hb2; (try simp only [szs] at hz2); try (first | obtain ⟨hy1, hy2, hy3, hy4⟩ := lts4 hz2 | obtain ⟨hy1, hy2, hy3⟩ := lts3 hz2 | obtain ⟨hy1, hy2⟩ := lts2 hz2 | have hy1 := lts1 hz2); have hb9 := hb1) | (go_at_call 40; refine (impl_flitsIn n.srcs _ _ _ (by exact Kd.C_below HF.out bel) HN HM).mono ?_; rintro e w' ⟨rfl, rfl⟩))
    go_ret
    exact ⟨ret_int HE.out.symm, bel⟩
set_option maxHeartbeats 4000000 in
set_option maxRecDepth 100000 in
theorem impl_ArrivedFlits (n : Net) (q : NA) (w : World) (hr : NetR 80 w n q) : Calls Tryz.prog 16 #[.agg (netCells n q)] w fun e w' => e = .returned (.int .i64 (cntN n n.arrs)) ∧ Below w.heap.size w w' := by
  have R := Lib.hid hr
  have HM : Hid (∀ x ∈ n.arrs, x.length ≤ 2097152) := Lib.hid hr.h11
  have HN := hr.h8
  have HF := Lib.hid hr.arrs
  obtain ⟨a1, a2, a3, a4, a5, a6, a7, a8, c1, c2, c3, c4, c5, c6, c7, c8⟩ := q
  clear hr
  dsimp only [netCells]
  cases hk : netOk n
  · have HE : Hid (cntN n n.arrs = -1) := Lib.hid (by rw [cntN, if_neg (by simp [hk])])
    go_enter Tryz.func16, Tryz.ntmps16
    go_wp2_with (go_at_call 21; refine (impl_NetOk n _ _ (R.out.below bel)).mono ?_; rintro e w1 ⟨rfl, hb1⟩; obtain ⟨hc1, hf1, hz1⟩ := bcell hb1; (try simp only [szs] at hz1); have hb2 := far2; obtain ⟨hc2, hf2, hz2⟩ := bcell hb2; (try simp only [szs] at hz2); try (first | obtain ⟨hy1, hy2, hy3, hy4⟩ := lts4 hz2 | obtain ⟨hy1, hy2, hy3⟩ := lts3 hz2 | obtain ⟨hy1, hy2⟩ := lts2 hz2 | have hy1 := lts1 hz2); have hb9 := hb1)
    go_ret
    exact ⟨ret_int HE.out.symm, bel⟩
  · have HE : Hid (cntN n n.arrs = ((totTo n.arrs n.arrs.length : Nat) : Int)) := Lib.hid (by rw [cntN, if_pos hk])
    go_enter Tryz.func16, Tryz.ntmps16
    go_wp2_with (first | (go_at_call 21; refine (impl_NetOk n _ _ (R.out.below bel)).mono ?_; rintro e w1 ⟨rfl, hb1⟩; obtain ⟨hc1, hf1, hz1⟩ := bcell hb1; (try simp only [szs] at hz1); have hb2 := far2; obtain ⟨hc2, hf2, hz2⟩ := bcell hb2; (try simp only [szs] at hz2); try (first | obtain ⟨hy1, hy2, hy3, hy4⟩ := lts4 hz2 | obtain ⟨hy1, hy2, hy3⟩ := lts3 hz2 | obtain ⟨hy1, hy2⟩ := lts2 hz2 | have hy1 := lts1 hz2); have hb9 := hb1) | (go_at_call 40; refine (impl_flitsIn n.arrs _ _ _ (by exact Kd.C_below HF.out bel) HN HM).mono ?_; rintro e w' ⟨rfl, rfl⟩))
    go_ret
    exact ⟨ret_int HE.out.symm, bel⟩
def Entering_ (n : Net) : List Int := if netOk n = true then enteringN n else []
set_option maxHeartbeats 4000000 in
set_option maxRecDepth 100000 in
theorem impl_Entering (n : Net) (q : NA) (w : World) (hr : NetR 80 w n q) : Calls Tryz.prog 22 #[.agg (netCells n q)] w fun e w' => GotI w w' (Entering_ n) e ∧ Below w.heap.size w w' := by
  have R := Lib.hid hr
  obtain ⟨a1, a2, a3, a4, a5, a6, a7, a8, c1, c2, c3, c4, c5, c6, c7, c8⟩ := q
  clear hr
  dsimp only [netCells]
  have X := fun (W : World) hb => Box.below (w1 := W) (Box.new w _ #[.int .i64 n.mesh.g.w, .int .i64 n.mesh.g.h, .slice a1 n.mesh.br.length c1, .slice a2 n.pa.length c2, .slice a3 n.pb.length c3, .slice a4 n.bufs.length c4, .slice a5 n.owners.length c5, .slice a6 n.turns.length c6, .slice a7 n.srcs.length c7, .slice a8 n.arrs.length c8, .int .i64 n.time] 35 rfl) hb
  cases hk : netOk n
  · have HE : Hid (Entering_ n = []) := Lib.hid (by rw [Entering_, if_neg (by simp [hk])])
    go_enter Tryz.func22, Tryz.ntmps22
    go_wp2_with (go_at_call 21; refine (impl_NetOk n _ _ (R.out.below bel)).mono ?_; rintro e w1 ⟨rfl, hb1⟩; obtain ⟨hc1, hf1, hz1⟩ := bcell hb1; (try simp only [szs] at hz1); have hb2 := far2; obtain ⟨hc2, hf2, hz2⟩ := bcell hb2; (try simp only [szs] at hz2); try (first | obtain ⟨hy1, hy2, hy3, hy4⟩ := lts4 hz2 | obtain ⟨hy1, hy2, hy3⟩ := lts3 hz2 | obtain ⟨hy1, hy2⟩ := lts2 hz2 | have hy1 := lts1 hz2); have hb9 := hb1)
    go_ret
    exact ⟨by rw [HE.out]; exact ⟨_, rfl, R_nil' _ _ _ _⟩, bel⟩
  · have HE : Hid (Entering_ n = enteringN n) := Lib.hid (by rw [Entering_, if_pos hk])
    have HK := Lib.hid hk
    go_enter Tryz.func22, Tryz.ntmps22
    go_wp2_with (first | (go_at_call 21; refine (impl_NetOk n _ _ (R.out.below bel)).mono ?_; rintro e w1 ⟨rfl, hb1⟩; obtain ⟨hc1, hf1, hz1⟩ := bcell hb1; (try simp only [szs] at hz1); have hb2 := far2; obtain ⟨hc2, hf2, hz2⟩ := bcell hb2; (try simp only [szs] at hz2); try (first | obtain ⟨hy1, hy2, hy3, hy4⟩ := lts4 hz2 | obtain ⟨hy1, hy2, hy3⟩ := lts3 hz2 | obtain ⟨hy1, hy2⟩ := lts2 hz2 | have hy1 := lts1 hz2); have hb9 := hb1) | (go_at_call 53; refine (impl_entering n _ _ _ (R.out.below bel) (X _ bel) HK.out).mono ?_; rintro e w1 ⟨hg1, hb1⟩; obtain ⟨v1, rfl, HO1⟩ := hg1; obtain ⟨hc1, hf1, hz1⟩ := bcell hb1; (try simp only [szs] at hz1); have hb2 := far2; obtain ⟨hc2, hf2, hz2⟩ := bcell hb2; (try simp only [szs] at hz2); try (first | obtain ⟨hy1, hy2, hy3, hy4⟩ := lts4 hz2 | obtain ⟨hy1, hy2, hy3⟩ := lts3 hz2 | obtain ⟨hy1, hy2⟩ := lts2 hz2 | have hy1 := lts1 hz2); have hb9 := hb1))
    go_ret
    exact ⟨by rw [HE.out]; exact ⟨_, rfl, Kd.R_lower (by exact Kd.R_below HO1 bel) (by first | omega | (simp only [szs]; omega))⟩, bel⟩
def CreditTable_ (n : Net) : List Int := if netOk n = true then creditsN n else []
set_option maxHeartbeats 4000000 in
set_option maxRecDepth 100000 in
theorem impl_CreditTable (n : Net) (q : NA) (w : World) (hr : NetR 80 w n q) : Calls Tryz.prog 27 #[.agg (netCells n q)] w fun e w' => GotI w w' (CreditTable_ n) e ∧ Below w.heap.size w w' := by
  have R := Lib.hid hr
  obtain ⟨a1, a2, a3, a4, a5, a6, a7, a8, c1, c2, c3, c4, c5, c6, c7, c8⟩ := q
  clear hr
  dsimp only [netCells]
  have X := fun (W : World) hb => Box.below (w1 := W) (Box.new w _ #[.int .i64 n.mesh.g.w, .int .i64 n.mesh.g.h, .slice a1 n.mesh.br.length c1, .slice a2 n.pa.length c2, .slice a3 n.pb.length c3, .slice a4 n.bufs.length c4, .slice a5 n.owners.length c5, .slice a6 n.turns.length c6, .slice a7 n.srcs.length c7, .slice a8 n.arrs.length c8, .int .i64 n.time] 35 rfl) hb
  cases hk : netOk n
  · have HE : Hid (CreditTable_ n = []) := Lib.hid (by rw [CreditTable_, if_neg (by simp [hk])])
    go_enter Tryz.func27, Tryz.ntmps27
    go_wp2_with (go_at_call 21; refine (impl_NetOk n _ _ (R.out.below bel)).mono ?_; rintro e w1 ⟨rfl, hb1⟩; obtain ⟨hc1, hf1, hz1⟩ := bcell hb1; (try simp only [szs] at hz1); have hb2 := far2; obtain ⟨hc2, hf2, hz2⟩ := bcell hb2; (try simp only [szs] at hz2); try (first | obtain ⟨hy1, hy2, hy3, hy4⟩ := lts4 hz2 | obtain ⟨hy1, hy2, hy3⟩ := lts3 hz2 | obtain ⟨hy1, hy2⟩ := lts2 hz2 | have hy1 := lts1 hz2); have hb9 := hb1)
    go_ret
    exact ⟨by rw [HE.out]; exact ⟨_, rfl, R_nil' _ _ _ _⟩, bel⟩
  · have HE : Hid (CreditTable_ n = creditsN n) := Lib.hid (by rw [CreditTable_, if_pos hk])
    have HK := Lib.hid hk
    go_enter Tryz.func27, Tryz.ntmps27
    go_wp2_with (first | (go_at_call 21; refine (impl_NetOk n _ _ (R.out.below bel)).mono ?_; rintro e w1 ⟨rfl, hb1⟩; obtain ⟨hc1, hf1, hz1⟩ := bcell hb1; (try simp only [szs] at hz1); have hb2 := far2; obtain ⟨hc2, hf2, hz2⟩ := bcell hb2; (try simp only [szs] at hz2); try (first | obtain ⟨hy1, hy2, hy3, hy4⟩ := lts4 hz2 | obtain ⟨hy1, hy2, hy3⟩ := lts3 hz2 | obtain ⟨hy1, hy2⟩ := lts2 hz2 | have hy1 := lts1 hz2); have hb9 := hb1) | (go_at_call 56; refine (impl_credits n _ _ _ (R.out.below bel) (X _ bel) HK.out).mono ?_; rintro e w1 ⟨hg1, hb1⟩; obtain ⟨v1, rfl, HO1⟩ := hg1; obtain ⟨hc1, hf1, hz1⟩ := bcell hb1; (try simp only [szs] at hz1); have hb2 := far2; obtain ⟨hc2, hf2, hz2⟩ := bcell hb2; (try simp only [szs] at hz2); try (first | obtain ⟨hy1, hy2, hy3, hy4⟩ := lts4 hz2 | obtain ⟨hy1, hy2, hy3⟩ := lts3 hz2 | obtain ⟨hy1, hy2⟩ := lts2 hz2 | have hy1 := lts1 hz2); have hb9 := hb1))
    go_ret
    exact ⟨by rw [HE.out]; exact ⟨_, rfl, Kd.R_lower (by exact Kd.R_below HO1 bel) (by first | omega | (simp only [szs]; omega))⟩, bel⟩
def posTo (l : List Int) : Nat → Int
  | 0 => 0
  | k + 1 => posTo l k + max (ri l (k : Int)) 0
theorem posTo_range {l : List Int} (h : ∀ j : Int, ri l j ≤ 3) : ∀ k : Nat, 0 ≤ posTo l k ∧ posTo l k ≤ 3 * k := by
  intro k
  induction k with
  | zero => simp [posTo]
  | succ k ih =>
    have := h (k : Int)
    rw [posTo]
    omega
set_option maxHeartbeats 4000000 in
set_option maxRecDepth 100000 in
theorem impl_TotalCredit (n : Net) (q : NA) (w : World) (hr : NetR 80 w n q) (ok : netOk n = true) : Calls Tryz.prog 29 #[.agg (netCells n q)] w fun e w' => (∃ v : Int, 0 ≤ v ∧ e = .returned (.int .i64 v)) ∧ Below w.heap.size w w' := by
  have R := Lib.hid hr
  have HK := Lib.hid ok
  have hbd := credits_bd ok
  have hlen : (creditsN n).length ≤ 1000 := by
    have := creditsTo_len n (8 * (nodeCount n.mesh.g).toNat)
    have h2 := count_le n.mesh.g
    unfold creditsN
    omega
  have HP : Hid (∀ k : Nat, 0 ≤ posTo (creditsN n) k ∧ posTo (creditsN n) k ≤ 3 * k) := Lib.hid (posTo_range (fun j => (hbd j).2))
  have HRI : Hid (∀ k : Nat, -3 ≤ ri (creditsN n) (k : Int) ∧ ri (creditsN n) (k : Int) ≤ 3) := Lib.hid (fun k => hbd k)
  obtain ⟨L, hL⟩ : ∃ z, creditsN n = z := ⟨_, rfl⟩
  have HL := Lib.hid hL
  rw [hL] at HP HRI hlen
  obtain ⟨a1, a2, a3, a4, a5, a6, a7, a8, c1, c2, c3, c4, c5, c6, c7, c8⟩ := q
  clear hr ok hbd hL
  dsimp only [netCells]
  have X := fun (W : World) hb => Box.below (w1 := W) (Box.new w _ #[.int .i64 n.mesh.g.w, .int .i64 n.mesh.g.h, .slice a1 n.mesh.br.length c1, .slice a2 n.pa.length c2, .slice a3 n.pb.length c3, .slice a4 n.bufs.length c4, .slice a5 n.owners.length c5, .slice a6 n.turns.length c6, .slice a7 n.srcs.length c7, .slice a8 n.arrs.length c8, .int .i64 n.time] 35 rfl) hb
  go_enter Tryz.func29, Tryz.ntmps29
  go_wp2_with (first | (go_at_call 21; refine (impl_NetOk n _ _ (R.out.below bel)).mono ?_; rintro e w1 ⟨he, hb1⟩; rw [HK.out] at he; subst he; obtain ⟨hc1, hf1, hz1⟩ := bcell hb1; (try simp only [szs] at hz1); have hb2 := far2; obtain ⟨hc2, hf2, hz2⟩ := bcell hb2; (try simp only [szs] at hz2); try (first | obtain ⟨hy1, hy2, hy3, hy4⟩ := lts4 hz2 | obtain ⟨hy1, hy2, hy3⟩ := lts3 hz2 | obtain ⟨hy1, hy2⟩ := lts2 hz2 | have hy1 := lts1 hz2); have hb9 := hb1) | (go_at_call 56; refine (impl_credits n _ _ _ (R.out.below bel) (X _ bel) HK.out).mono ?_; rintro e w1 ⟨hg1, hb1⟩; rw [HL.out] at hg1; obtain ⟨A1, d1, rfl, hk1, hC1⟩ := hg1.read; obtain ⟨hc1, hf1, hz1⟩ := bcell hb1; (try simp only [szs] at hz1); have hb2 := far2; obtain ⟨hc2, hf2, hz2⟩ := bcell hb2; (try simp only [szs] at hz2); try (first | obtain ⟨hy1, hy2, hy3, hy4⟩ := lts4 hz2 | obtain ⟨hy1, hy2, hy3⟩ := lts3 hz2 | obtain ⟨hy1, hy2⟩ := lts2 hz2 | have hy1 := lts1 hz2); have hb9 := hb1))
  go_loopw [3, 11] (fun s i wr => ∃ k : Nat, i = .int .i64 k ∧ s = .int .i64 (posTo L k) ∧ k ≤ L.length ∧ Below w1.heap.size w1 wr) (fun _ i _ => L.length - (intOf i).toNat)
  case atStart => exact ⟨0, rfl, rfl, Nat.zero_le _, bel⟩
  case round =>
    obtain ⟨k, rfl, rfl, hk, HB⟩ := hrel
    have hpk := HP.out k
    by_cases hlt : k < L.length
    · have hCr := Kd.C_below hC1 HB
      obtain ⟨b1, o1, rfl, hb1', hx⟩ := rdI_at hCr k hlt
      have hxk := hx k hlt
      clear hx
      have hrk := HRI.out k
      have HS : Hid (posTo L (k + 1) = posTo L k + max (ri L (k : Int)) 0) := Lib.hid rfl
      obtain ⟨x, hx2⟩ : ∃ x, ri L (k : Int) = x := ⟨_, rfl⟩
      rw [hx2] at hxk hrk HS
      clear hx2
      obtain ⟨p, hp⟩ : ∃ p, posTo L k = p := ⟨_, rfl⟩
      rw [hp] at hpk HS ⊢
      clear hp
      have i0 : (0 : Int) ≤ (k : Int) := by omega
      have i1 : (k : Int) < (L.length : Int) := by omega
      go_wp2
      go_roundw
      case rel => exact ⟨k + 1, by go_num, congrArg (Value.int .i64) (by have := HS.out; omega), by omega, bel⟩
      case measure => simp [intOf]; omega
    · obtain rfl : k = L.length := by omega
      go_wp2
      go_ret
      exact ⟨⟨_, hpk.1, rfl⟩, bel⟩
end Go.Proofs.YtaihmgbflhbebaaGreat
namespace Go.Proofs.YtaihmgbflhbebaaGreatW.PrintWords
open Go.RowKit
section
variable {P : Program} {d : Nat} {xs ys : Array Value} {f : Field} {fs : List Field} {a b : Value} {r s : Bool} {w : World}
end
end Go.Proofs.YtaihmgbflhbebaaGreatW.PrintWords
namespace Go.Proofs.YtaihmgbflhbebaaGreat
open Go.RowKit Go.Proofs.YtaihmgbflhbebaaGreatW.PrintWords
open NoC
set_option maxHeartbeats 2000000 in
theorem slices_Equal_same (a : List Int) (A B : Option Addr) (c d : Nat) (w : World) (hr : Kd.C (Kd.int .i64) w A a.length a) (hs : Kd.C (Kd.int .i64) w B a.length a) (hn : a.length ≤ 2097152) :
    Calls Tryz.prog 46 #[.slice A a.length c, .slice B a.length d] w fun e w' => e = .returned (.bool true) ∧ Below w.heap.size w w' := by
  go_enter Tryz.func46, Tryz.ntmps46
  go_wp2
  go_loopw [13] (fun i wr => ∃ k : Nat, k ≤ a.length ∧ i = .int .i64 k ∧ Below w.heap.size w wr) (fun i _ => a.length - (intOf i).toNat)
  case atStart => exact ⟨0, Nat.zero_le _, rfl, bel⟩
  case round =>
    obtain ⟨k, hk, rfl, HB⟩ := hrel
    obtain ⟨hc0, hf0, hz0⟩ := bcell HB
    by_cases hlt : k < a.length
    · obtain ⟨b1, o1, rfl, hb1, hx⟩ := rdI_at hr k hlt
      have hxk := hx k hlt
      obtain ⟨b2, o2, rfl, hb2, hy⟩ := rdI_at hs k hlt
      have hyk := hy k hlt
      clear hx hy
      have i0 : (0 : Int) ≤ (k : Int) := by omega
      have i1 : (k : Int) < (a.length : Int) := by omega
      go_wp2
      try (go_quiet (fail); go_wp2)
      go_roundw
      case rel => exact ⟨k + 1, by omega, by go_num, bel⟩
      case measure => simp [intOf]; omega
    · go_wp2
      go_ret
      exact ⟨rfl, bel⟩
set_option maxHeartbeats 2000000 in
theorem laws_sameInts (a : List Int) (A B : Option Addr) (c d : Nat) (w : World) (hr : Kd.C (Kd.int .i64) w A a.length a) (hs : Kd.C (Kd.int .i64) w B a.length a) (hn : a.length ≤ 2097152) :
    Calls Tryz.prog 28 #[.slice A a.length c, .slice B a.length d] w fun e w' => e = .returned (.bool true) ∧ Below w.heap.size w w' := by
  go_enter Tryz.func28, Tryz.ntmps28
  go_wp2
  go_loopw [5] (fun i wr => ∃ k : Nat, k ≤ a.length ∧ i = .int .i64 k ∧ Below w.heap.size w wr) (fun i _ => a.length - (intOf i).toNat)
  case atStart => exact ⟨0, Nat.zero_le _, rfl, bel⟩
  case round =>
    obtain ⟨k, hk, rfl, HB⟩ := hrel
    obtain ⟨hc0, hf0, hz0⟩ := bcell HB
    by_cases hlt : k < a.length
    · obtain ⟨b1, o1, rfl, hb1, hx⟩ := rdI_at hr k hlt
      have hxk := hx k hlt
      obtain ⟨b2, o2, rfl, hb2, hy⟩ := rdI_at hs k hlt
      have hyk := hy k hlt
      clear hx hy
      have i0 : (0 : Int) ≤ (k : Int) := by omega
      have i1 : (k : Int) < (a.length : Int) := by omega
      go_wp2
      try (go_quiet (fail); go_wp2)
      go_roundw
      case rel => exact ⟨k + 1, by omega, by go_num, bel⟩
      case measure => simp [intOf]; omega
    · go_wp2
      go_ret
      exact ⟨rfl, bel⟩
set_option maxHeartbeats 4000000 in
theorem slices_Equal_flit (a : List Flit) (A B : Option Addr) (c d : Nat) (w : World) (hr : kF.C w A a.length a) (hs : kF.C w B a.length a) (hn : a.length ≤ 2097152) :
    Calls Tryz.prog 114 #[.slice A a.length c, .slice B a.length d] w fun e w' => e = .returned (.bool true) ∧ Below w.heap.size w w' := by
  go_enter Tryz.func114, Tryz.ntmps114
  go_wp2
  go_loopw [13] (fun i wr => ∃ k : Nat, k ≤ a.length ∧ i = .int .i64 k ∧ Below w.heap.size w wr) (fun i _ => a.length - (intOf i).toNat)
  case atStart => exact ⟨0, Nat.zero_le _, rfl, bel⟩
  case round =>
    obtain ⟨k, hk, rfl, HB⟩ := hrel
    obtain ⟨hc0, hf0, hz0⟩ := bcell HB
    by_cases hlt : k < a.length
    · obtain ⟨b1, o1, rfl, hb1, x0, x1, x2, x3, x4⟩ := rdFl_at hr k hlt
      obtain ⟨b2, o2, rfl, hb2, y0, y1, y2, y3, y4⟩ := rdFl_at hs k hlt
      have i0 : (0 : Int) ≤ (k : Int) := by omega
      have i1 : (k : Int) < (a.length : Int) := by omega
      obtain ⟨f, hf⟩ : ∃ f, rf a (k : Int) = f := ⟨_, rfl⟩
      rw [hf] at x0 x1 x2 x3 x4 y0 y1 y2 y3 y4
      clear hf
      obtain ⟨fp, fd, fc, fh, ft⟩ := f
      dsimp only at x0 x1 x2 x3 x4 y0 y1 y2 y3 y4
      go_wp2
      try (go_quiet (fail); go_wp2)
      go_roundw
      case rel => exact ⟨k + 1, by omega, by go_num, bel⟩
      case measure => simp [intOf]; omega
    · go_wp2
      go_ret
      exact ⟨rfl, bel⟩
theorem impl_SameFlits (a : List Flit) (A B : Option Addr) (c d : Nat) (w : World) (hr : kF.C w A a.length a) (hs : kF.C w B a.length a) (hn : a.length ≤ 2097152) :
    Calls Tryz.prog 78 #[.slice A a.length c, .slice B a.length d] w fun e w' => e = .returned (.bool true) ∧ Below w.heap.size w w' := by
  go_enter Tryz.func78, Tryz.ntmps78
  go_wp2_with (go_at_call 114; refine (slices_Equal_flit a A B c d _ (by exact Kd.C_below hr bel) (by exact Kd.C_below hs bel) hn).mono ?_; rintro e w1 ⟨rfl, hb1⟩; obtain ⟨hc1, hf1, hz1⟩ := bcell hb1; (try simp only [szs] at hz1); have hb2 := far2; obtain ⟨hc2, hf2, hz2⟩ := bcell hb2; (try simp only [szs] at hz2); try (first | obtain ⟨hy1, hy2, hy3, hy4⟩ := lts4 hz2 | obtain ⟨hy1, hy2, hy3⟩ := lts3 hz2 | obtain ⟨hy1, hy2⟩ := lts2 hz2 | have hy1 := lts1 hz2); have hb9 := hb1)
  go_ret
  exact ⟨rfl, bel⟩
set_option maxHeartbeats 4000000 in
theorem slices_EqualFunc_same (l : List (List Flit)) (A B : Option Addr) (c d : Nat) (w : World) (hr : (kB 80).C w A l.length l) (hs : (kB 80).C w B l.length l) (hn : l.length ≤ 2097152) (hm : Hid (∀ x ∈ l, x.length ≤ 2097152)) :
    Calls Tryz.prog 77 #[.slice A l.length c, .slice B l.length d, .func (.func 78) #[] #[]] w fun e w' => e = .returned (.bool true) ∧ Below w.heap.size w w' := by
  go_enter Tryz.func77, Tryz.ntmps77
  go_wp2
  go_loopw [17] (fun i wr => ∃ k : Nat, k ≤ l.length ∧ i = .int .i64 k ∧ Below w.heap.size w wr) (fun i _ => l.length - (intOf i).toNat)
  case atStart => exact ⟨0, Nat.zero_le _, rfl, bel⟩
  case round =>
    obtain ⟨k, hk, rfl, HB⟩ := hrel
    obtain ⟨hc0, hf0, hz0⟩ := bcell HB
    by_cases hlt : k < l.length
    · obtain ⟨b1, o1, rfl, hb1, Ai, ci, p0, hle, hCi⟩ := rdB_at hr k hlt
      obtain ⟨b2, o2, rfl, hb2, Aj, cj, p1, hle2, hCj⟩ := rdB_at hs k hlt
      have hki := hm.out _ (rl_mem hlt)
      have i0 : (0 : Int) ≤ (k : Int) := by omega
      have i1 : (k : Int) < (l.length : Int) := by omega
      go_wp2_with (go_at_call 78; refine (impl_SameFlits (rl l (k : Int)) Ai Aj ci cj _ (by exact Kd.C_below hCi bel) (by exact Kd.C_below hCj bel) hki).mono ?_; rintro e w1 ⟨rfl, hb1⟩; obtain ⟨hc1, hf1, hz1⟩ := bcell hb1; (try simp only [szs] at hz1); have hb2 := far2; obtain ⟨hc2, hf2, hz2⟩ := bcell hb2; (try simp only [szs] at hz2); try (first | obtain ⟨hy1, hy2, hy3, hy4⟩ := lts4 hz2 | obtain ⟨hy1, hy2, hy3⟩ := lts3 hz2 | obtain ⟨hy1, hy2⟩ := lts2 hz2 | have hy1 := lts1 hz2); have hb9 := hb1)
      go_roundw
      case rel => exact ⟨k + 1, by omega, by go_num, bel⟩
      case measure => simp [intOf]; omega
    · go_wp2
      go_ret
      exact ⟨rfl, bel⟩
theorem impl_sameLists (l : List (List Flit)) (A B : Option Addr) (c d : Nat) (w : World) (hr : (kB 80).C w A l.length l) (hs : (kB 80).C w B l.length l) (hn : l.length ≤ 2097152) (hm : Hid (∀ x ∈ l, x.length ≤ 2097152)) :
    Calls Tryz.prog 45 #[.slice A l.length c, .slice B l.length d] w fun e w' => e = .returned (.bool true) ∧ Below w.heap.size w w' := by
  go_enter Tryz.func45, Tryz.ntmps45
  go_wp2_with (go_at_call 77; refine (slices_EqualFunc_same l A B c d _ (by exact Kd.C_below hr bel) (by exact Kd.C_below hs bel) hn hm).mono ?_; rintro e w1 ⟨rfl, hb1⟩; obtain ⟨hc1, hf1, hz1⟩ := bcell hb1; (try simp only [szs] at hz1); have hb2 := far2; obtain ⟨hc2, hf2, hz2⟩ := bcell hb2; (try simp only [szs] at hz2); try (first | obtain ⟨hy1, hy2, hy3, hy4⟩ := lts4 hz2 | obtain ⟨hy1, hy2, hy3⟩ := lts3 hz2 | obtain ⟨hy1, hy2⟩ := lts2 hz2 | have hy1 := lts1 hz2); have hb9 := hb1)
  go_ret
  exact ⟨rfl, bel⟩
theorem impl_sameMesh (m : Mesh) (A B : Option Addr) (c d : Nat) (w : World) (hr : Kd.C (Kd.int .i64) w A m.br.length m.br) (hs : Kd.C (Kd.int .i64) w B m.br.length m.br) (hn : m.br.length ≤ 2097152) :
    Calls Tryz.prog 43 #[.agg #[.int .i64 m.g.w, .int .i64 m.g.h, .slice A m.br.length c], .agg #[.int .i64 m.g.w, .int .i64 m.g.h, .slice B m.br.length d]] w fun e w' => e = .returned (.bool true) ∧ Below w.heap.size w w' := by
  go_enter Tryz.func43, Tryz.ntmps43
  go_wp2_with (go_at_call 46; refine (slices_Equal_same m.br A B c d _ (by exact Kd.C_below hr bel) (by exact Kd.C_below hs bel) hn).mono ?_; rintro e w1 ⟨rfl, hb1⟩; obtain ⟨hc1, hf1, hz1⟩ := bcell hb1; (try simp only [szs] at hz1); have hb2 := far2; obtain ⟨hc2, hf2, hz2⟩ := bcell hb2; (try simp only [szs] at hz2); try (first | obtain ⟨hy1, hy2, hy3, hy4⟩ := lts4 hz2 | obtain ⟨hy1, hy2, hy3⟩ := lts3 hz2 | obtain ⟨hy1, hy2⟩ := lts2 hz2 | have hy1 := lts1 hz2); have hb9 := hb1)
  go_ret
  exact ⟨rfl, bel⟩
theorem impl_sameClasses (pa pb : List Int) (A B C D : Option Addr) (c d e f : Nat) (w : World) (h1 : Kd.C (Kd.int .i64) w A pa.length pa) (h2 : Kd.C (Kd.int .i64) w B pb.length pb) (h3 : Kd.C (Kd.int .i64) w C pa.length pa) (h4 : Kd.C (Kd.int .i64) w D pb.length pb) (hn : pa.length ≤ 2097152) (hm : pb.length ≤ 2097152) :
    Calls Tryz.prog 44 #[.agg #[.slice A pa.length c, .slice B pb.length d], .agg #[.slice C pa.length e, .slice D pb.length f]] w fun e w' => e = .returned (.bool true) ∧ Below w.heap.size w w' := by
  go_enter Tryz.func44, Tryz.ntmps44
  go_wp2_with (first | (go_at_call_of 46 A; refine (slices_Equal_same pa A C c e _ (by exact Kd.C_below h1 bel) (by exact Kd.C_below h3 bel) hn).mono ?_; rintro e w1 ⟨rfl, hb1⟩; obtain ⟨hc1, hf1, hz1⟩ := bcell hb1; (try simp only [szs] at hz1); have hb2 := far2; obtain ⟨hc2, hf2, hz2⟩ := bcell hb2; (try simp only [szs] at hz2); try (first | obtain ⟨hy1, hy2, hy3, hy4⟩ := lts4 hz2 | obtain ⟨hy1, hy2, hy3⟩ := lts3 hz2 | obtain ⟨hy1, hy2⟩ := lts2 hz2 | have hy1 := lts1 hz2); have hb9 := hb1) | (go_at_call_of 46 B; refine (slices_Equal_same pb B D d f _ (by exact Kd.C_below h2 bel) (by exact Kd.C_below h4 bel) hm).mono ?_; rintro e w1 ⟨rfl, hb1⟩; obtain ⟨hc1, hf1, hz1⟩ := bcell hb1; (try simp only [szs] at hz1); have hb2 := far2; obtain ⟨hc2, hf2, hz2⟩ := bcell hb2; (try simp only [szs] at hz2); try (first | obtain ⟨hy1, hy2, hy3, hy4⟩ := lts4 hz2 | obtain ⟨hy1, hy2, hy3⟩ := lts3 hz2 | obtain ⟨hy1, hy2⟩ := lts2 hz2 | have hy1 := lts1 hz2); have hb9 := hb1))
  go_ret
  exact ⟨rfl, bel⟩
set_option maxHeartbeats 8000000 in
set_option maxRecDepth 100000 in
theorem impl_SameNet (n : Net) (q p : NA) (w : World) (hr : NetR 80 w n q) (hs : NetR 80 w n p) :
    Calls Tryz.prog 19 #[.agg (netCells n q), .agg (netCells n p)] w fun e w' => e = .returned (.bool true) ∧ Below w.heap.size w w' := by
  have R := Lib.hid hr
  have S := Lib.hid hs
  have M9 : Hid (∀ x ∈ n.bufs, x.length ≤ 2097152) := Lib.hid hr.h9
  have M10 : Hid (∀ x ∈ n.srcs, x.length ≤ 2097152) := Lib.hid hr.h10
  have M11 : Hid (∀ x ∈ n.arrs, x.length ≤ 2097152) := Lib.hid hr.h11
  obtain ⟨a1, a2, a3, a4, a5, a6, a7, a8, c1, c2, c3, c4, c5, c6, c7, c8⟩ := q
  obtain ⟨p1, p2, p3, p4, p5, p6, p7, p8, d1, d2, d3, d4, d5, d6, d7, d8⟩ := p
  clear hr hs
  dsimp only [netCells]
  have HM : Hid (∀ W, Below w.heap.size w W → Calls Tryz.prog 43 #[.agg #[.int .i64 n.mesh.g.w, .int .i64 n.mesh.g.h, .slice a1 n.mesh.br.length c1], .agg #[.int .i64 n.mesh.g.w, .int .i64 n.mesh.g.h, .slice p1 n.mesh.br.length d1]] W fun e w' => e = .returned (.bool true) ∧ Below W.heap.size W w') := Lib.hid (fun W h => impl_sameMesh n.mesh _ _ _ _ _ (Kd.C_below R.out.br h) (Kd.C_below S.out.br h) R.out.h1)
  have HC : Hid (∀ W, Below w.heap.size w W → Calls Tryz.prog 44 #[.agg #[.slice a2 n.pa.length c2, .slice a3 n.pb.length c3], .agg #[.slice p2 n.pa.length d2, .slice p3 n.pb.length d3]] W fun e w' => e = .returned (.bool true) ∧ Below W.heap.size W w') := Lib.hid (fun W h => impl_sameClasses n.pa n.pb _ _ _ _ _ _ _ _ _ (Kd.C_below R.out.pa h) (Kd.C_below R.out.pb h) (Kd.C_below S.out.pa h) (Kd.C_below S.out.pb h) R.out.h2 R.out.h3)
  have HL4 : Hid (∀ W, Below w.heap.size w W → Calls Tryz.prog 45 #[.slice a4 n.bufs.length c4, .slice p4 n.bufs.length d4] W fun e w' => e = .returned (.bool true) ∧ Below W.heap.size W w') := Lib.hid (fun W h => impl_sameLists n.bufs _ _ _ _ _ (Kd.C_below R.out.bufs h) (Kd.C_below S.out.bufs h) R.out.h4 M9)
  have HL7 : Hid (∀ W, Below w.heap.size w W → Calls Tryz.prog 45 #[.slice a7 n.srcs.length c7, .slice p7 n.srcs.length d7] W fun e w' => e = .returned (.bool true) ∧ Below W.heap.size W w') := Lib.hid (fun W h => impl_sameLists n.srcs _ _ _ _ _ (Kd.C_below R.out.srcs h) (Kd.C_below S.out.srcs h) R.out.h7 M10)
  have HL8 : Hid (∀ W, Below w.heap.size w W → Calls Tryz.prog 45 #[.slice a8 n.arrs.length c8, .slice p8 n.arrs.length d8] W fun e w' => e = .returned (.bool true) ∧ Below W.heap.size W w') := Lib.hid (fun W h => impl_sameLists n.arrs _ _ _ _ _ (Kd.C_below R.out.arrs h) (Kd.C_below S.out.arrs h) R.out.h8 M11)
  have HI5 : Hid (∀ W, Below w.heap.size w W → Calls Tryz.prog 46 #[.slice a5 n.owners.length c5, .slice p5 n.owners.length d5] W fun e w' => e = .returned (.bool true) ∧ Below W.heap.size W w') := Lib.hid (fun W h => slices_Equal_same n.owners _ _ _ _ _ (Kd.C_below R.out.owners h) (Kd.C_below S.out.owners h) R.out.h5)
  have HI6 : Hid (∀ W, Below w.heap.size w W → Calls Tryz.prog 46 #[.slice a6 n.turns.length c6, .slice p6 n.turns.length d6] W fun e w' => e = .returned (.bool true) ∧ Below W.heap.size W w') := Lib.hid (fun W h => slices_Equal_same n.turns _ _ _ _ _ (Kd.C_below R.out.turns h) (Kd.C_below S.out.turns h) R.out.h6)
  clear R S M9 M10 M11
  go_enter Tryz.func19, Tryz.ntmps19
  go_wp2_with (first | (go_at_call 43; refine (HM.out _ bel).mono ?_; rintro e w1 ⟨rfl, hb1⟩; obtain ⟨hc1, hf1, hz1⟩ := bcell hb1; (try simp only [szs] at hz1); have hb2 := far2; obtain ⟨hc2, hf2, hz2⟩ := bcell hb2; (try simp only [szs] at hz2); try (first | obtain ⟨hy1, hy2, hy3, hy4⟩ := lts4 hz2 | obtain ⟨hy1, hy2, hy3⟩ := lts3 hz2 | obtain ⟨hy1, hy2⟩ := lts2 hz2 | have hy1 := lts1 hz2); have hb9 := hb1) | (go_at_call 44; refine (HC.out _ bel).mono ?_; rintro e w1 ⟨rfl, hb1⟩; obtain ⟨hc1, hf1, hz1⟩ := bcell hb1; (try simp only [szs] at hz1); have hb2 := far2; obtain ⟨hc2, hf2, hz2⟩ := bcell hb2; (try simp only [szs] at hz2); try (first | obtain ⟨hy1, hy2, hy3, hy4⟩ := lts4 hz2 | obtain ⟨hy1, hy2, hy3⟩ := lts3 hz2 | obtain ⟨hy1, hy2⟩ := lts2 hz2 | have hy1 := lts1 hz2); have hb9 := hb1) | (go_at_call_of 45 a4; refine (HL4.out _ bel).mono ?_; rintro e w1 ⟨rfl, hb1⟩; obtain ⟨hc1, hf1, hz1⟩ := bcell hb1; (try simp only [szs] at hz1); have hb2 := far2; obtain ⟨hc2, hf2, hz2⟩ := bcell hb2; (try simp only [szs] at hz2); try (first | obtain ⟨hy1, hy2, hy3, hy4⟩ := lts4 hz2 | obtain ⟨hy1, hy2, hy3⟩ := lts3 hz2 | obtain ⟨hy1, hy2⟩ := lts2 hz2 | have hy1 := lts1 hz2); have hb9 := hb1) | (go_at_call_of 45 a7; refine (HL7.out _ bel).mono ?_; rintro e w1 ⟨rfl, hb1⟩; obtain ⟨hc1, hf1, hz1⟩ := bcell hb1; (try simp only [szs] at hz1); have hb2 := far2; obtain ⟨hc2, hf2, hz2⟩ := bcell hb2; (try simp only [szs] at hz2); try (first | obtain ⟨hy1, hy2, hy3, hy4⟩ := lts4 hz2 | obtain ⟨hy1, hy2, hy3⟩ := lts3 hz2 | obtain ⟨hy1, hy2⟩ := lts2 hz2 | have hy1 := lts1 hz2); have hb9 := hb1) | (go_at_call_of 45 a8; refine (HL8.out _ bel).mono ?_; rintro e w1 ⟨rfl, hb1⟩; obtain ⟨hc1, hf1, hz1⟩ := bcell hb1; (try simp only [szs] at hz1); have hb2 := far2; obtain ⟨hc2, hf2, hz2⟩ := bcell hb2; (try simp only [szs] at hz2); try (first | obtain ⟨hy1, hy2, hy3, hy4⟩ := lts4 hz2 | obtain ⟨hy1, hy2, hy3⟩ := lts3 hz2 | obtain ⟨hy1, hy2⟩ := lts2 hz2 | have hy1 := lts1 hz2); have hb9 := hb1) | (go_at_call_of 46 a5; refine (HI5.out _ bel).mono ?_; rintro e w1 ⟨rfl, hb1⟩; obtain ⟨hc1, hf1, hz1⟩ := bcell hb1; (try simp only [szs] at hz1); have hb2 := far2; obtain ⟨hc2, hf2, hz2⟩ := bcell hb2; (try simp only [szs] at hz2); try (first | obtain ⟨hy1, hy2, hy3, hy4⟩ := lts4 hz2 | obtain ⟨hy1, hy2, hy3⟩ := lts3 hz2 | obtain ⟨hy1, hy2⟩ := lts2 hz2 | have hy1 := lts1 hz2); have hb9 := hb1) | (go_at_call_of 46 a6; refine (HI6.out _ bel).mono ?_; rintro e w1 ⟨rfl, hb1⟩; obtain ⟨hc1, hf1, hz1⟩ := bcell hb1; (try simp only [szs] at hz1); have hb2 := far2; obtain ⟨hc2, hf2, hz2⟩ := bcell hb2; (try simp only [szs] at hz2); try (first | obtain ⟨hy1, hy2, hy3, hy4⟩ := lts4 hz2 | obtain ⟨hy1, hy2, hy3⟩ := lts3 hz2 | obtain ⟨hy1, hy2⟩ := lts2 hz2 | have hy1 := lts1 hz2); have hb9 := hb1))
  go_ret
  exact ⟨rfl, bel⟩
theorem run_nb1 {n : Net} (nb : NB n) (hA : ∀ x ∈ n.arrs, x.length ≤ 1048576) (k : Nat) (hk : k ≤ 999) (ok : netOk (runN n k) = true) : NB (runN n (k + 1)) := by
  obtain ⟨e1, e2, e3⟩ := run_parts n (k + 1)
  have L := run_lens n (k + 1)
  have L0 := run_lens n k
  refine ⟨by rw [e1]; exact nb.h1, by rw [e2]; exact nb.h2, by rw [e3]; exact nb.h3, by rw [L.b]; exact nb.h4, by rw [L.o]; exact nb.h5, by rw [L.t]; exact nb.h6, by rw [L.s]; exact nb.h7, by rw [L.a]; exact nb.h8, fun x hx => ?_, fun x hx => ?_, fun x hx => ?_⟩
  · obtain ⟨i, hi, rfl⟩ := rl_of_mem hx
    have h1 := step_bufs ok i (by rw [L0.b, ← L.b]; exact hi)
    have h2 : (rl (runN n (k + 1)).bufs (i : Int)).length ≤ 3 := (bufOk_iff.1 h1).2
    omega
  · obtain ⟨i, hi, rfl⟩ := rl_of_mem hx
    obtain ⟨c, s1, s2, s3, s4, s5, hb, hs, _⟩ := netOk_parts ok
    have h1 := hs i (by rw [L0.s, ← L.s]; exact hi)
    simp only [srcOk, Bool.and_eq_true, decide_eq_true_eq] at h1
    have h2 := (enter_rows (runN n k) i (enteringN (runN n k)) (afterPush (runN n k))).2
    have e : (afterPush (runN n k)).srcs = (runN n k).srcs := by unfold afterPush; rw [pushL_srcs]; rfl
    rw [e] at h2
    have h3 : (rl (runN n (k + 1)).srcs (i : Int)).length ≤ (rl (runN n k).srcs (i : Int)).length := h2
    omega
  · obtain ⟨i, hi, rfl⟩ := rl_of_mem hx
    have h1 := run_arrs n i (k + 1)
    have hi2 : i < n.arrs.length := by rw [← L.a]; exact hi
    have h2 := hA _ (rl_mem hi2)
    omega
end Go.Proofs.YtaihmgbflhbebaaGreat
namespace Go.Proofs.YtaihmgbflhbebaaGreat
open NoC
theorem stepNet_nb {n : Net} (nb : NB n) (hA : ∀ x ∈ n.arrs, x.length ≤ 1048576) : NB (stepNetN n) := by
  unfold stepNetN
  split
  · rename_i ok
    split
    · exact nb
    · exact run_nb1 nb hA 0 (by omega) ok
  · exact nb
end Go.Proofs.YtaihmgbflhbebaaGreat
namespace Go.Proofs.YtaihmgbflhbebaaGreat
open Go.ChangeShapes Go.WideShapes Go.ChangeAt Go.RowKit Go.Proofs.YtaihmgbflhbebaaGreatW.PrintWords
open NoC
section
variable {H : Type} {enc : TypeId × Value → H} {W : World} {base : Nat} {spare : Nat → Bool} {held : Bool} {fuel : Nat} {cs : List Value} {x : DataW H × List MemPlace}
def Light (t : TypeId) (d : DataW H) : Prop := ∀ n ∈ d.weights Tryz.prog t, n ≤ reachBytes
theorem light_arg {ts : List TypeId} {ds : List (DataW H)} (h : (DataW.weightsEach Tryz.prog ts ds).all (· ≤ reachBytes) = true) {j : Nat} {t : TypeId} {d : DataW H} (ht : ts[j]? = some t) (hd : ds[j]? = some d) : Light t d :=
  fun n hn => by simpa using List.all_eq_true.1 h n (DataW.weights_mem_each ht hd n hn)
end
section
variable {H : Type} {enc : TypeId × Value → H} {W : World} {base : Nat} {spare : Nat → Bool} {held : Bool} {fuel : Nat} {cs : List Value} {x : DataW H × List MemPlace}
end
section
variable {H : Type} {enc : TypeId × Value → H} {W : World} {base : Nat} {spare : Nat → Bool} {held : Bool} {fuel : Nat} {cs : List Value} {x : DataW H × List MemPlace}
theorem op_bytes (h : DataW.trod enc Tryz.prog W base spare held fuel 22 cs = some x) (hl : Light 22 x.1) :
    ∃ A c N, cs = [.slice A N c] ∧ Byt W A N := by
  rcases open_ints Tryz.underlying22 Tryz.underlying5 (by kernel_rfl) h with ⟨rfl, _⟩ | ⟨a, len, cap, zs, rfl, _, hle, hm, hz, hx, hc, _⟩
  · exact ⟨none, 0, 0, rfl, by decide, fun n h => absurd h (Nat.not_lt_zero _)⟩
  · have hlen : len ≤ zs.length := by rw [hz]; split <;> omega
    have e : (zs.take len).length = len := by rw [List.length_take, Nat.min_eq_left hlen]
    have hb : len * 1 ≤ 140737488351232 := by
      subst hx
      have z := hl _ (by unfold DataW.weights; rw [show Tryz.prog.underlying 22 = _ from Tryz.underlying22]; exact List.mem_cons_self)
      rw [show Tryz.prog.bytesOf 5 = 1 by kernel_rfl] at z
      have hr : reachBytes = 140737488351232 := by decide
      have h1 : (lits (H := H) .u8 (zs.take len)).length = len := by simp [lits, hlen]
      rw [h1] at z
      omega
    have hC : Kd.C (Kd.int .u8) W (some a) (zs.take len).length (zs.take len) := by
      refine ⟨rfl, by rw [e]; omega, fun _ => ⟨a, rfl, ?_⟩⟩
      intro j p hj
      refine ⟨[.int .u8 p], rfl, rfl, ?_⟩
      intro i u hi
      obtain ⟨rfl, rfl⟩ : i = 0 ∧ u = .int .u8 p := by
        cases i with
        | zero => simp at hi; exact ⟨rfl, hi.symm⟩
        | succ i => simp at hi
      have hj2 := List.getElem?_eq_some_iff.1 hj
      obtain ⟨hj3, hj4⟩ := hj2
      have hj5 : j < zs.length := by omega
      have := hc j hj5
      rw [show j * (Kd.int .u8).sz + 0 = j by show j * 1 + 0 = j; omega, this]
      rw [List.getElem_take] at hj4
      simp [hj5, hj4]
    refine ⟨some a, cap, len, rfl, by omega, fun n hn => ?_⟩
    obtain ⟨B, off, ha, hB, hcell⟩ := rdU_at hC n (by omega)
    exact ⟨B, off, _, ha, hB, hcell n (by omega)⟩
end
end Go.Proofs.YtaihmgbflhbebaaGreat
namespace Go.Proofs.YtaihmgbflhbebaaGreat
open Go.RowKit Go.Proofs.YtaihmgbflhbebaaGreatW.PrintWords
open NoC
theorem RU.off {α : Type} {d : Kd α} {e : Nat} {w : World} {lo hi : Nat} {v : Value} {xs : List α} (h : RU d e w lo hi v xs) {g : Nat} (hg : g < lo) (j : Nat) (u : Value) : RU d e (w.setCell ⟨g, j, none⟩ u) lo hi v xs :=
  h.step (fun k h1 _ _ => Below.heap_setCell w ⟨g, j, none⟩ u k (by show k ≠ g; omega))
theorem OB.off {w : World} {lo hi : Nat} {v : Value} {l : List (List Flit)} {vs : List Value} (h : OB w lo hi v l vs) {g : Nat} (hg : g < lo) (j : Nat) (u : Value) : OB (w.setCell ⟨g, j, none⟩ u) lo hi v l vs :=
  h.step (fun k h1 _ _ => Below.heap_setCell w ⟨g, j, none⟩ u k (by show k ≠ g; omega))
theorem RU.bel {α : Type} {d : Kd α} {e : Nat} {w w1 : World} {lo hi : Nat} {v : Value} {xs : List α} (hb : Below w.heap.size w w1) (h : RU d e w lo hi v xs) : RU d e w1 lo hi v xs := h.below hb
theorem OB.bel {w w1 : World} {lo hi : Nat} {v : Value} {l : List (List Flit)} {vs : List Value} (hb : Below w.heap.size w w1) (h : OB w lo hi v l vs) : OB w1 lo hi v l vs := h.below hb
def allGrantsN (n : Net) : List Grant := if netOk n = true then allGrants n else []
set_option maxHeartbeats 2000000 in
theorem impl_AllGrants (n : Net) (q : NA) (w : World) (hr : NetR 80 w n q) : Calls Tryz.prog 13 #[.agg (netCells n q)] w fun e w' => GotG w w' (allGrantsN n) e ∧ Below w.heap.size w w' := by
  have R := Lib.hid hr
  obtain ⟨a1, a2, a3, a4, a5, a6, a7, a8, c1, c2, c3, c4, c5, c6, c7, c8⟩ := q
  clear hr
  dsimp only [netCells]
  have X := fun (W : World) hb => Box.below (w1 := W) (Box.new w _ #[.int .i64 n.mesh.g.w, .int .i64 n.mesh.g.h, .slice a1 n.mesh.br.length c1, .slice a2 n.pa.length c2, .slice a3 n.pb.length c3, .slice a4 n.bufs.length c4, .slice a5 n.owners.length c5, .slice a6 n.turns.length c6, .slice a7 n.srcs.length c7, .slice a8 n.arrs.length c8, .int .i64 n.time] 35 rfl) hb
  cases hk : netOk n
  · have HE : Hid (allGrantsN n = []) := Lib.hid (by rw [allGrantsN, hk]; rfl)
    go_enter Tryz.func13, Tryz.ntmps13
    go_wp2_with (go_at_call 21; refine (impl_NetOk n _ _ (R.out.below bel)).mono ?_; rintro e w1 ⟨rfl, hb1⟩; obtain ⟨hc1, hf1, hz1⟩ := bcell hb1; (try simp only [szs] at hz1); have hb2 := far2; obtain ⟨hc2, hf2, hz2⟩ := bcell hb2; (try simp only [szs] at hz2); try (first | obtain ⟨hy1, hy2, hy3, hy4⟩ := lts4 hz2 | obtain ⟨hy1, hy2, hy3⟩ := lts3 hz2 | obtain ⟨hy1, hy2⟩ := lts2 hz2 | have hy1 := lts1 hz2); have hb9 := hb1)
    go_ret
    exact ⟨by rw [HE.out]; exact GotG.nil _ _, bel⟩
  · have HE : Hid (allGrantsN n = allGrants n) := Lib.hid (by rw [allGrantsN, hk]; rfl)
    have HK := Lib.hid hk
    go_enter Tryz.func13, Tryz.ntmps13
    go_wp2_with (first | (go_at_call 21; refine (impl_NetOk n _ _ (R.out.below bel)).mono ?_; rintro e w1 ⟨rfl, hb1⟩; obtain ⟨hc1, hf1, hz1⟩ := bcell hb1; (try simp only [szs] at hz1); have hb2 := far2; obtain ⟨hc2, hf2, hz2⟩ := bcell hb2; (try simp only [szs] at hz2); try (first | obtain ⟨hy1, hy2, hy3, hy4⟩ := lts4 hz2 | obtain ⟨hy1, hy2, hy3⟩ := lts3 hz2 | obtain ⟨hy1, hy2⟩ := lts2 hz2 | have hy1 := lts1 hz2); have hb9 := hb1) | (go_at_call 39; refine (impl_allGrants n _ _ _ (R.out.below bel) (X _ bel) HK.out).mono ?_; rintro e w1 ⟨hg1, hb1⟩; obtain ⟨v1, rfl, HO1⟩ := hg1; obtain ⟨A1, c1, rfl⟩ := Kd.R_slice HO1; obtain ⟨hc1, hf1, hz1⟩ := bcell hb1; (try simp only [szs] at hz1); have hb2 := far2; obtain ⟨hc2, hf2, hz2⟩ := bcell hb2; (try simp only [szs] at hz2); try (first | obtain ⟨hy1, hy2, hy3, hy4⟩ := lts4 hz2 | obtain ⟨hy1, hy2, hy3⟩ := lts3 hz2 | obtain ⟨hy1, hy2⟩ := lts2 hz2 | have hy1 := lts1 hz2); have hb9 := hb1))
    go_ret
    exact ⟨by rw [HE.out]; exact ⟨_, rfl, Kd.R_lower (by exact Kd.R_below HO1 bel) (by first | omega | (simp only [szs]; omega))⟩, bel⟩
theorem grown_set (W : World) (b k : Nat) (v : Value) : W.grownBy (W.setCell ⟨b, k, none⟩ v) (some b) :=
  ⟨rfl, rfl, rfl, by simp, fun i hi hne => Below.heap_setCell W ⟨b, k, none⟩ v i (fun e => hne (by rw [e]))⟩
set_option maxHeartbeats 4000000 in
theorem impl_change (l : List Int) (ch cl d : Int) (bo gs cap lo : Nat) (w : World) (hB : w.cell? ⟨bo, 0, none⟩ = some (.slice (some ⟨gs, 0, none⟩) l.length cap)) (hbl : bo < w.heap.size) (hne : ¬ bo = gs)
    (HO : Kd.R (Kd.int .i64) 3 w lo (fun _ => True) (.slice (some ⟨gs, 0, none⟩) l.length cap) l) (c0 : 0 ≤ ch) (c1 : ch ≤ 1000) (k0 : 0 ≤ cl) (k1 : cl ≤ 1) (hk : 2 * ch + cl < (l.length : Int)) (hv : -1000 ≤ ri l (2 * ch + cl) ∧ ri l (2 * ch + cl) ≤ 1000) (d0 : -1 ≤ d) (d1 : d ≤ 1) :
    Calls Tryz.prog 57 #[.int .i64 ch, .int .i64 cl, .int .i64 d, .pointer (some ⟨bo, 0, none⟩)] w fun e w' => e = .returned (.tuple #[]) ∧ Kd.R (Kd.int .i64) 3 w' lo (fun _ => True) (.slice (some ⟨gs, 0, none⟩) l.length cap) (chgC l (2 * ch + cl) d) ∧ w.grownBy w' (some gs) := by
  obtain ⟨k, hkk⟩ : ∃ k : Nat, 2 * ch + cl = (k : Int) := ⟨(2 * ch + cl).toNat, by omega⟩
  have H := Lib.hid HO
  obtain ⟨hc, hf⟩ := rowI_cell HO k (by omega)
  have hsz : gs < w.heap.size := World.block_lt_of_cell? w _ hc
  have hkl : k < l.length := by omega
  have kk0 : (0 : Int) ≤ (k : Int) := by omega
  have kk1 : (k : Int) < (l.length : Int) := by omega
  have HE : Hid (chgC l (2 * ch + cl) d = if ri l (k : Int) = -1 then l else l.set k (ri l (k : Int) + d)) := Lib.hid (by unfold chgC; rw [hkk, Int.toNat_natCast])
  rw [hkk] at hv
  obtain ⟨x, hx⟩ : ∃ x, ri l (k : Int) = x := ⟨_, rfl⟩
  rw [hx] at hc hv HE
  clear HO hx hk
  by_cases h1 : x = -1
  · have HE1 : Hid (chgC l (2 * ch + cl) d = l) := Lib.hid (by rw [HE.out, if_pos h1])
    subst h1
    clear hv HE
    go_enter Tryz.func57, Tryz.ntmps57
    go_wp2
    exact bodyPost_end (v := .tuple #[]) (by simp [results, Tryz.results57, go_sem]) rfl ⟨rfl, by rw [HE1.out]; exact H.out, ⟨rfl, rfl, rfl, Nat.le_refl _, fun _ _ _ => rfl⟩⟩
  · have HE1 : Hid (chgC l (2 * ch + cl) d = l.set k (x + d)) := Lib.hid (by rw [HE.out, if_neg h1])
    have e1 : (x != -1) = true := by simp [h1]
    clear HE
    go_enter Tryz.func57, Tryz.ntmps57
    go_wp2
    exact bodyPost_end (v := .tuple #[]) (by simp [results, Tryz.results57, go_sem]) rfl ⟨rfl, by rw [HE1.out]; exact rowI_set H.out k (x + d), grown_set w gs k _⟩
end Go.Proofs.YtaihmgbflhbebaaGreat
