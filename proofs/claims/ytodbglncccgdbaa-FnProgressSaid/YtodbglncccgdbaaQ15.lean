/- Lemmas for laws of this seat, for all inputs: MW Sk Pg Po Bf Tb Rk Wh3 Sg NwI DrP Open OpenP OpenY. -/
import Derived.Test.YtodbglncccgdbaaQ8
import Derived.Test.YtodbglncccgdbaaQ14
import Derived.Test.YtodbglncccgdbaaQ10
import Derived.Test.YtodbglncccgdbaaQ1
import Derived.Test.YtodbglncccgdbaaQ12
import Derived.Test.YtodbglncccgdbaaQ7
import Derived.Test.YtodbglncccgdbaaQ6
import Derived.Test.YtodbglncccgdbaaQ3
import Derived.ProofKit
import Derived.OpenShut
import Derived.SizedLaws
import Derived.WideShapes
import Derived.ChangeSame
set_option linter.unusedVariables false
set_option linter.unusedSimpArgs false
namespace NoC
theorem owner_range {n : Net} {a i : Int} (h : At n a i) {p c : Int} (h0 : 0 ≤ p) (h4 : p ≤ 4) (c0 : 0 ≤ c) (c1 : c ≤ 1) : -1 ≤ ownAt n a p c ∧ ownAt n a p c ≤ 4 := by
  obtain ⟨_, h1, h2, h3, _, _, _, _, ho, _⟩ := netOk_parts h.ok
  have h5 := isNode_iff.1 h.nd
  have h6 := ho (10 * a + 2 * p + c).toNat (by omega)
  rw [Int.toNat_of_nonneg (by omega), inside_iff] at h6
  exact h6
structure Stk (n : Net) (so si : Int → FS) (ss : Int → FS) (sa : Int → Int → FS) : Prop where
  ok : netOk n = true
  hw : WI n so si ss sa
  hx : WX n so si sa
  gr : allGrants n = []
  en : enteringN n = []
section
variable {n : Net} {so si : Int → FS} {ss : Int → FS} {sa : Int → Int → FS}
theorem Stk.req (S : Stk n so si ss sa) {a i p : Int} (ha : isNode n.mesh.g a = true) (i0 : 0 ≤ i) (i9 : i ≤ 9) (p0 : 0 ≤ p) (p4 : p ≤ 4) : requestN n a i p = false := by
  cases h : requestN n a i p
  · rfl
  · have h1 := grants_some i0 i9 p0 p4 h
    cases e : grantsN n a with
    | nil => exact absurd e h1
    | cons g gs =>
      have := grants_all ha (g := g) (by rw [e]; simp)
      rw [S.gr] at this
      cases this
theorem Stk.enter (S : Stk n so si ss sa) {a : Int} (a0 : 0 ≤ a) (a1 : a < (n.srcs.length : Int)) (h : 0 < (rl n.srcs a).length) : 3 ≤ (rl n.bufs (10 * a + 8 + (rf (rl n.srcs a) 0).cls)).length := by
  obtain ⟨k, rfl⟩ : ∃ k : Nat, a = k := ⟨a.toNat, by omega⟩
  rcases Nat.lt_or_ge (rl n.bufs (10 * (k : Int) + 8 + (rf (rl n.srcs (k : Int)) 0).cls)).length 3 with h3 | h3
  · exfalso
    have he : enters n k = true := by unfold enters; rw [decide_eq_true h, decide_eq_true h3]; rfl
    have : (k : Int) ∈ enteringN n := List.mem_map.2 ⟨k, List.mem_filter.2 ⟨List.mem_range.2 (by omega), he⟩, rfl⟩
    rw [S.en] at this
    cases this
  · exact h3
theorem bufs_lt (ok : netOk n = true) {a b : Int} (ha : isNode n.mesh.g a = true) (b0 : 0 ≤ b) (b9 : b ≤ 9) : 10 * a + b < (n.bufs.length : Int) := by
  obtain ⟨_, e1, _⟩ := netOk_parts ok
  have := isNode_iff.1 ha
  omega
theorem Stk.body (S : Stk n so si ss sa) {a p c : Int} {t : Int × Int × Int} (hp : opens n.mesh a p) (c0 : 0 ≤ c) (c1 : c ≤ 1) (hd : dn n.mesh si sa a p c = some t) (hne : 0 < (rl n.bufs (10 * a + 2 * ownAt n a p c + c)).length) : roomN n a p c = false := by
  rcases S.hw.own a p c hp c0 c1 with ⟨_, o2⟩ | ⟨s, o1, o2, o3⟩
  · rw [o2] at hd; cases hd
  · rw [hd] at o1
    obtain rfl := Option.some.inj o1
    have or := owner_range (i := 0) ⟨S.ok, hp.1, by omega, by omega⟩ hp.2.1 hp.2.2.1 c0 c1
    obtain ⟨q, hq⟩ : ∃ q, ownAt n a p c = q := ⟨_, rfl⟩
    rw [hq] at o2 o3 or hne
    have hA : At n a (2 * q + c) := ⟨S.ok, hp.1, by omega, by omega⟩
    have e1 : (2 * q + c) % 2 = c := by omega
    have e2 : (2 * q + c) / 2 = q := by omega
    have e3 : 10 * a + (2 * q + c) = 10 * a + 2 * q + c := by omega
    have h0 : 0 < (bufOf n a (2 * q + c)).length := by unfold bufOf; rw [e3]; exact hne
    obtain ⟨f1, f2, f3⟩ := front S.hw S.hx hA h0
    rw [e3, o3] at f3
    rw [e1] at f1 f2
    have hh : (rf (bufOf n a (2 * q + c)) 0).head = false := by
      cases hh : (rf (bufOf n a (2 * q + c)) 0).head
      · rfl
      · have := nx_head f3 hh; cases this
    have ht : fid (rf (bufOf n a (2 * q + c)) 0) = t := (Option.some.inj (nx_body f3 hh)).symm
    have hdr := (S.hx.dr a p c t hp c0 c1 hd).1
    have hwp : wantedN n a (2 * q + c) = p := by rw [f1, ← hdr, ← ht]; rfl
    cases hr : roomN n a p c
    · rfl
    · have hreq := request_2 (i := 2 * q + c) hwp (by rw [e1]; exact hr) hh
      rw [e1, e2, hq] at hreq
      rw [S.req hp.1 (by omega) (by omega) hp.2.1 hp.2.2.1] at hreq
      simp at hreq
theorem room_empty (ok : netOk n = true) {a p c : Int} (hp : opens n.mesh a p) (p4 : ¬ p = 4) (h : rl n.bufs (behindI n a p c) = []) : roomN n a p c = true := by
  rw [room_yes (by have := hp.2.2.1; omega) (hp.2.2.2.resolve_left p4), h]
  rfl
theorem Stk.owner (S : Stk n so si ss sa) : ∀ (k : Nat) (a p c : Int) (t : Int × Int × Int), opens n.mesh a p → 0 ≤ c → c ≤ 1 → dn n.mesh si sa a p c = some t → 17 ≤ k + (walk n.mesh (tabOf n.pa n.pb c) a t.2.1).length → 0 < (rl n.bufs (10 * a + 2 * ownAt n a p c + c)).length := by
 intro k
 induction k with
 | zero =>
  intro a p c t hp c0 c1 hd hk
  have := walk_le (ok_tab S.ok c) hp.1 (S.hx.dr a p c t hp c0 c1 hd).2
  omega
 | succ k ih =>
  intro a p c t hp c0 c1 hd hk
  obtain ⟨hdr, hdn⟩ := S.hx.dr a p c t hp c0 c1 hd
  rcases S.hw.own a p c hp c0 c1 with ⟨_, o2⟩ | ⟨s, o1, o2, o3⟩
  ·rw [o2] at hd; cases hd
  ·rw [hd] at o1
   obtain rfl := Option.some.inj o1
   have or := owner_range (i := 0) ⟨S.ok, hp.1, by omega, by omega⟩ hp.2.1 hp.2.2.1 c0 c1
   obtain ⟨q, hq⟩ : ∃ q, ownAt n a p c = q := ⟨_, rfl⟩
   rw [hq] at o2 o3 or ⊢
   rcases Nat.eq_zero_or_pos (rl n.bufs (10 * a + 2 * q + c)).length with h0 | h0
   ·exfalso
    have he : rl n.bufs (10 * a + 2 * q + c) = [] := List.eq_nil_of_length_eq_zero h0
    have a0 := isNode_iff.1 hp.1
    have b1 : 10 * a + 2 * q + c < (n.bufs.length : Int) := by
     have := bufs_lt S.ok hp.1 (b := 2 * q + c) (by omega) (by omega)
     omega
    have hb := S.hw.buf (10 * a + 2 * q + c) (by omega) b1
    rw [he, o3] at hb
    have hsi : si (10 * a + 2 * q + c) = some t := (Option.some.inj hb).symm
    by_cases q4 : q = 4
    ·subst q4
     have hl := S.hw.loc a c a0.1 c0 c1
     rw [show 10 * a + 8 + c = 10 * a + 2 * 4 + c by omega, hsi] at hl
     have hst : ss a = some t ∧ t.2.2 = c := by
      unfold lcl at hl
      split at hl
      ·rename_i t2 e2
       split at hl
       ·rename_i e3
        have := Option.some.inj hl
        subst this
        exact ⟨e2, e3⟩
       ·cases hl
      ·cases hl
     obtain ⟨_, _, _, _, hsl, _⟩ := netOk_parts S.ok
     have hsr := S.hw.src a a0.1 (by omega)
     rw [hst.1] at hsr
     cases e : rl n.srcs a with
     | nil => rw [e] at hsr; cases hsr
     | cons f r =>
      rw [e] at hsr
      obtain ⟨r1, _⟩ := run_cons hsr
      have hh : f.head = false := by
       cases hh : f.head
       ·rfl
       ·have := nx_head r1 hh; cases this
      have hf := Option.some.inj (nx_body r1 hh)
      have hc : f.cls = c := by rw [← hst.2, hf]; rfl
      have := S.enter a0.1 (by omega) (by rw [e]; simp)
      rw [e] at this
      have e5 : (rf (f :: r) 0) = f := rfl
      rw [e5, hc, show 10 * a + 8 + c = 10 * a + 2 * 4 + c by omega, he] at this
      simp at this
    ·have hbd := S.hx.bd a q c hp.1 (by omega) (by omega) c0 c1 (by rw [hsi]; simp)
     obtain ⟨hu, hl⟩ := hbd
     have hu' := isNode_iff.1 hu
     have hgeo := geo (g := n.mesh.g) (by omega) (by omega) hp.1 hu'.1
     obtain ⟨_, g2, g3, g4, g5, g6⟩ := hgeo
     obtain ⟨u, hue⟩ : ∃ u, nextNode n.mesh.g a q = u := ⟨_, rfl⟩
     rw [hue] at hu hu' hl g2 g4
     have hop : opens n.mesh u (opposite q) := ⟨hu, g5, by omega, .inr hl⟩
     have hdu : dn n.mesh si sa u (opposite q) c = some t := by
      unfold dn
      rw [if_neg (by omega), g2, g3]
      exact hsi
     obtain ⟨d1, d2⟩ := S.hx.dr u (opposite q) c t hop c0 c1 hdu
     have hne : u ≠ t.2.1 := fun e => by
      have := (hop_four (ok_tab S.ok c) hu d2).2 e
      omega
     have hlen := hop_len (ok_tab S.ok c) hu d2 hne
     rw [d1, g2] at hlen
     have h1 := ih u (opposite q) c t hop c0 c1 hdu (by omega)
     have h2 := S.body hop c0 c1 hdu h1
     have h3 := room_empty S.ok hop (by omega) (c := c) (by unfold behindI; rw [g2, g3]; exact he)
     rw [h2] at h3
     cases h3
   ·exact h0
theorem Stk.full (S : Stk n so si ss sa) {a p c : Int} {t : Int × Int × Int} (hp : opens n.mesh a p) (c0 : 0 ≤ c) (c1 : c ≤ 1) (hd : dn n.mesh si sa a p c = some t) : roomN n a p c = false :=
  S.body hp c0 c1 hd (S.owner 17 a p c t hp c0 c1 hd (by omega))
structure Waits (n : Net) (a i p : Int) : Prop where
  p0 : 0 ≤ p
  p3 : p ≤ 3
  want : wantedN n a i = p
  ent : entry n.mesh (tabOf n.pa n.pb (i % 2)) a (rf (bufOf n a i) 0).dst = p
  lv : live n.mesh (4 * a + p) = true
  room : roomN n a p (i % 2) = false
  full : 3 ≤ (rl n.bufs (behindI n a p (i % 2))).length
theorem Stk.waits (S : Stk n so si ss sa) {a i : Int} (h : At n a i) (h0 : 0 < (bufOf n a i).length) : Waits n a i (wantedN n a i) := by
  have i0 := h.i0; have i9 := h.i9
  obtain ⟨f1, f2, f3⟩ := front S.hw S.hx h h0
  have hdst := (h.buf0 h0).1
  have ht := ok_tab S.ok (i % 2)
  obtain ⟨p, hwp⟩ : ∃ p, wantedN n a i = p := ⟨_, rfl⟩
  rw [hwp] at f1 f2 ⊢
  have hr : p ≤ 4 ∧ 0 ≤ p ∧ (p = 4 ∨ live n.mesh (4 * a + p) = true) := by
    by_cases e : a = (rf (bufOf n a i) 0).dst
    · have := (hop_four ht h.nd hdst).2 e
      rw [← f1] at this
      omega
    · have := hop ht h.nd hdst e
      rw [f1]
      exact ⟨by have := this.p3; omega, this.p0, .inr this.lv⟩
  have hop : opens n.mesh a p := ⟨h.nd, hr.2.1, hr.1, hr.2.2⟩
  have hroom : roomN n a p (i % 2) = false := by
    cases hh : (rf (bufOf n a i) 0).head
    · have ho := f2 hh
      rcases S.hw.own a p (i % 2) hop (by omega) (by omega) with ⟨o1, _⟩ | ⟨s, o1, o2, o3⟩
      · omega
      · exact S.full hop (by omega) (by omega) o1
    · cases hr2 : roomN n a p (i % 2)
      · rfl
      · have hreq := request_1 (i := i) hwp hr2 hh
        rw [S.req h.nd i0 i9 hr.2.1 hr.1] at hreq
        rcases S.hw.own a p (i % 2) hop (by omega) (by omega) with ⟨o1, _⟩ | ⟨s, o1, o2, o3⟩
        · rw [o1] at hreq; cases hreq
        · rw [S.full hop (by omega) (by omega) o1] at hr2
          cases hr2
  have p4 : ¬ p = 4 := fun e => by rw [e] at hroom; cases hroom
  have hl := hr.2.2.resolve_left p4
  refine ⟨hr.2.1, by omega, hwp, f1.symm, hl, hroom, ?_⟩
  rw [room_yes (by omega) hl, decide_eq_false_iff_not] at hroom
  omega
end
end NoC
namespace Go.Proofs.Ytodbglncccgdbaa
open NoC
def LC (n : Net) : Prop := ∀ (a q c : Int) (f : Flit), isNode n.mesh.g a = true → 0 ≤ q → q ≤ 3 → 0 ≤ c → c ≤ 1 → f ∈ rl n.bufs (10 * a + 2 * q + c) → isNode n.mesh.g (nextNode n.mesh.g a q) = true ∧ entry n.mesh (tabOf n.pa n.pb c) (nextNode n.mesh.g a q) f.dst = opposite q
theorem LC_step {n : Net} (ok : netOk n = true) (hE : WE n) (h : LC n) : LC (stepN n) := by
  have := step_ind ok (fun x => (x.mesh = n.mesh ∧ x.pa = n.pa ∧ x.pb = n.pb) ∧ LC x) ⟨⟨rfl, rfl, rfl⟩, h⟩ (fun g x rest M hp => ?_) (fun y x rest E hp => ?_) (fun x t hp => hp)
  · exact this.2
  · obtain ⟨⟨e1, e2, e3⟩, hl⟩ := hp
    obtain ⟨r1, r2, r3, r4, r5, r6, r7⟩ := specG_rest n x g
    refine ⟨⟨r1.trans e1, r2.trans e2, r3.trans e3⟩, fun a q c f ha q0 q3 c0 c1 hf => ?_⟩
    rw [r1] at ha
    rw [r1, r2, r3]
    have ha' := isNode_iff.1 ha
    rw [specG_bufs M _ (by omega)] at hf
    rcases List.mem_append.1 hf with hf | hf
    · refine hl a q c f ha q0 q3 c0 c1 ?_
      split at hf
      · rename_i e
        rw [e, M.hf]
        exact List.mem_cons_of_mem _ hf
      · exact hf
    · split at hf
      · rename_i e
        rw [List.mem_singleton.1 hf]
        have one := M.one
        have i0 := one.i0
        have p0 := one.p0
        obtain ⟨t0, t1, t2, t3, t4, t5, t6⟩ := one.to M.ok e.1
        have p3 : g.port ≤ 3 := by have := one.p4; have := e.1; omega
        have hgeo := geo (g := n.mesh.g) p0 p3 one.nd t3
        have ea : a = nextNode n.mesh.g g.node g.port ∧ q = opposite g.port ∧ c = g.input % 2 := by have := e.2; omega
        rw [e1, e2, e3, ea.1, ea.2.1, ea.2.2, hgeo.2.1, hgeo.2.2.1]
        exact ⟨one.nd, grant_entry ok hE M.mem⟩
      · cases hf
  · obtain ⟨hq, hl⟩ := hp
    refine ⟨hq, fun a q c f ha q0 q3 c0 c1 hf => ?_⟩
    have ha' := isNode_iff.1 ha
    rw [enterB_bufs E _ (by omega)] at hf
    rcases List.mem_append.1 hf with hf | hf
    · exact hl a q c f ha q0 q3 c0 c1 hf
    · have := E.c0; have := E.c1
      rw [if_neg (by unfold eTo; omega)] at hf
      cases hf
theorem tot_some {l : List (List Flit)} : ∀ k, totTo l k ≠ 0 → ∃ i : Nat, i < k ∧ 0 < (rl l (i : Int)).length := by
  intro k
  induction k with
  | zero => intro h; exact absurd rfl h
  | succ k ih =>
    intro h
    rw [totTo] at h
    by_cases e : totTo l k = 0
    · exact ⟨k, by omega, by omega⟩
    · obtain ⟨i, hi, h1⟩ := ih e
      exact ⟨i, by omega, h1⟩
theorem Stk.some {n : Net} {so si : Int → FS} {ss : Int → FS} {sa : Int → Int → FS} (S : Stk n so si ss sa) (h : idleN n = false) : ∃ a i, At n a i ∧ 0 < (bufOf n a i).length := by
  have hb : (∃ i : Nat, i < n.bufs.length ∧ 0 < (rl n.bufs (i : Int)).length) → ∃ a i, At n a i ∧ 0 < (bufOf n a i).length := by
    rintro ⟨i, hi, h1⟩
    obtain ⟨_, e1, _⟩ := netOk_parts S.ok
    refine ⟨(i : Int) / 10, (i : Int) % 10, ⟨S.ok, isNode_iff.2 ⟨by omega, by omega⟩, by omega, by omega⟩, ?_⟩
    unfold bufOf
    rw [show 10 * ((i : Int) / 10) + (i : Int) % 10 = i by omega]
    exact h1
  apply hb
  unfold idleN at h
  by_cases e : totTo n.bufs n.bufs.length = 0
  · have e2 : totTo n.srcs n.srcs.length ≠ 0 := fun e2 => by rw [decide_eq_true e, decide_eq_true e2] at h; cases h
    obtain ⟨k, hk, h1⟩ := tot_some _ e2
    have h3 := S.enter (a := k) (by omega) (by omega) h1
    obtain ⟨_, _, _, hcl⟩ := src_buf S.ok k hk
    obtain ⟨d0, d1, d2⟩ := hcl h1
    refine ⟨(10 * (k : Int) + 8 + (rf (rl n.srcs (k : Int)) 0).cls).toNat, by omega, ?_⟩
    rw [Int.toNat_of_nonneg (by omega)]
    omega
  · exact tot_some _ e
structure Ranks (m : Mesh) (pa pb : List Int) (ρ : Int → Int → Int → Nat) (R : Nat) : Prop where
  le : ∀ c a p, ρ c a p ≤ R
  up : ∀ c u d : Int, 0 ≤ c → c ≤ 1 → isNode m.g u = true → isNode m.g d = true → entry m (tabOf pa pb c) u d ≠ 4 → entry m (tabOf pa pb c) (nextNode m.g u (entry m (tabOf pa pb c) u d)) d ≠ 4 →
    ρ c u (entry m (tabOf pa pb c) u d) < ρ c (nextNode m.g u (entry m (tabOf pa pb c) u d)) (entry m (tabOf pa pb c) (nextNode m.g u (entry m (tabOf pa pb c) u d)) d)
def val (n : Net) (ρ : Int → Int → Int → Nat) (a i : Int) : Nat := if i / 2 = 4 then 0 else ρ (i % 2) (nextNode n.mesh.g a (i / 2)) (opposite (i / 2)) + 1
theorem no_wait {n : Net} {so si : Int → FS} {ss : Int → FS} {sa : Int → Int → FS} (S : Stk n so si ss sa) (hl : LC n) {ρ : Int → Int → Int → Nat} {R : Nat} (hR : Ranks n.mesh n.pa n.pb ρ R) : ∀ (k : Nat) (a i : Int), At n a i → 0 < (bufOf n a i).length → R + 2 ≤ k + val n ρ a i → False := by
  intro k
  induction k with
  | zero =>
    intro a i h h0 hk
    unfold val at hk
    split at hk
    · omega
    · have := hR.le (i % 2) (nextNode n.mesh.g a (i / 2)) (opposite (i / 2))
      omega
  | succ k ih =>
    intro a i h h0 hk
    have i0 := h.i0; have i9 := h.i9
    have W := S.waits h h0
    obtain ⟨p, hp⟩ : ∃ p, wantedN n a i = p := ⟨_, rfl⟩
    rw [hp] at W
    obtain ⟨b1, b2, b3, b4, b5, b6, b7⟩ := behind_idx (c := i % 2) S.ok W.p0 W.p3 W.lv (by omega) (by omega)
    have hgeo := geo (g := n.mesh.g) W.p0 W.p3 h.nd b2
    have hA : At n (nextNode n.mesh.g a p) (2 * opposite p + i % 2) := ⟨S.ok, b1, by omega, by omega⟩
    have e1 : (2 * opposite p + i % 2) / 2 = opposite p := by omega
    have e2 : (2 * opposite p + i % 2) % 2 = i % 2 := by omega
    refine ih _ _ hA (by unfold bufOf; rw [show 10 * nextNode n.mesh.g a p + (2 * opposite p + i % 2) = behindI n a p (i % 2) by unfold behindI; omega]; have := W.full; omega) ?_
    have hv : val n ρ (nextNode n.mesh.g a p) (2 * opposite p + i % 2) = ρ (i % 2) a p + 1 := by
      unfold val
      rw [e1, e2, if_neg (by omega), hgeo.2.1, hgeo.2.2.1]
    rw [hv]
    unfold val at hk
    split at hk
    · omega
    · rename_i hq
      have hmem : (rf (bufOf n a i) 0) ∈ rl n.bufs (10 * a + 2 * (i / 2) + i % 2) := by
        rw [show 10 * a + 2 * (i / 2) + i % 2 = 10 * a + i by omega]
        have := rf_get (bufOf n a i) 0 h0
        rw [show rf (bufOf n a i) 0 = (bufOf n a i)[0] from this]
        exact List.getElem_mem h0
      obtain ⟨l1, l2⟩ := hl a (i / 2) (i % 2) _ h.nd (by omega) (by omega) (by omega) (by omega) hmem
      have l1' := isNode_iff.1 l1
      have hg2 := geo (g := n.mesh.g) (p := i / 2) (by omega) (by omega) h.nd l1'.1
      have hu := hR.up (i % 2) (nextNode n.mesh.g a (i / 2)) (rf (bufOf n a i) 0).dst (by omega) (by omega) l1 (h.buf0 h0).1 (by rw [l2]; omega)
      rw [l2, hg2.2.1, W.ent] at hu
      have := hu (by have := W.p3; omega)
      omega
theorem moves_some {n : Net} (ok : netOk n = true) (hE : WE n) (hl : LC n) {ρ : Int → Int → Int → Nat} {R : Nat} (hR : Ranks n.mesh n.pa n.pb ρ R) (h : movesV n = 0) : idleN n = true := by
  cases hi : idleN n
  · exfalso
    obtain ⟨so, si, ss, sa, hw, hx⟩ := hE
    have hm : allGrants n = [] ∧ enteringN n = [] := by
      unfold movesV at h
      exact ⟨List.eq_nil_of_length_eq_zero (by omega), List.eq_nil_of_length_eq_zero (by omega)⟩
    have S : Stk n so si ss sa := ⟨ok, hw, hx, hm.1, hm.2⟩
    obtain ⟨a, i, hA, h0⟩ := Stk.some S hi
    exact no_wait S hl hR (R + 2) a i hA h0 (by omega)
  · rfl
end Go.Proofs.Ytodbglncccgdbaa
namespace NoC
def wF (ω : Flit → Nat) (l : List Flit) : Nat := (l.map ω).sum
def wTo (ω : Int → Flit → Nat) (l : List (List Flit)) : Nat → Nat
  | 0 => 0
  | k + 1 => wTo ω l k + wF (ω (k : Int)) (rl l (k : Int))
def wL (ω : Int → Flit → Nat) (l : List (List Flit)) : Nat := wTo ω l l.length
end NoC
namespace Go.Proofs.Ytodbglncccgdbaa
open NoC
def hp (n : Net) (a : Int) (f : Flit) : Nat := (walk n.mesh (tabOf n.pa n.pb f.cls) a f.dst).length
def wB (n : Net) (b : Int) (f : Flit) : Nat := hp n (b / 10) f + 1
def wS (n : Net) (a : Int) (f : Flit) : Nat := hp n a f + 2
def left (n : Net) : Nat := wL (wB n) n.bufs + wL (wS n) n.srcs
structure Gw (n : Net) (g : Grant) (f : Flit) : Prop where
  one : GOne n g
  cls : f.cls = g.input % 2
  dst : isNode n.mesh.g f.dst = true
  ent : entry n.mesh (tabOf n.pa n.pb f.cls) g.node f.dst = g.port
theorem Gw.here {n : Net} {g : Grant} {f : Flit} (ok : netOk n = true) (h : Gw n g f) (h4 : g.port = 4) : g.node = f.dst := (hop_four (ok_tab ok f.cls) h.one.nd h.dst).1 (by rw [h.ent]; exact h4)
theorem Gw.hop {n : Net} {g : Grant} {f : Flit} (ok : netOk n = true) (h : Gw n g f) (h4 : ¬ g.port = 4) : walk n.mesh (tabOf n.pa n.pb f.cls) g.node f.dst = (4 * g.node + g.port) :: walk n.mesh (tabOf n.pa n.pb f.cls) (nextNode n.mesh.g g.node g.port) f.dst := by
  have hne : g.node ≠ f.dst := fun e => h4 (by rw [← h.ent]; exact (hop_four (ok_tab ok f.cls) h.one.nd h.dst).2 e)
  have := (NoC.hop (ok_tab ok f.cls) h.one.nd h.dst hne).wk
  rw [h.ent] at this
  exact this
theorem Gw.hp {n : Net} {g : Grant} {f : Flit} (ok : netOk n = true) (h : Gw n g f) : if g.port = 4 then hp n g.node f = 0 else hp n g.node f = hp n (gTo n g / 10) f + 1 := by
  unfold Go.Proofs.Ytodbglncccgdbaa.hp
  by_cases h4 : g.port = 4
  · rw [if_pos h4, ← h.here ok h4, (hop_end (ok_tab ok f.cls) h.one.nd).2]
    rfl
  · rw [if_neg h4]
    obtain ⟨_, _, _, t3, t4, t5, t6⟩ := h.one.to ok h4
    have i0 := h.one.i0
    rw [show gTo n g / 10 = nextNode n.mesh.g g.node g.port by omega, h.hop ok h4]
    rfl
structure Safe (n : Net) : Prop where
  ok : netOk n = true
  we : WE n
  lc : LC n
  rk : ∃ ρ R, Ranks n.mesh n.pa n.pb ρ R
theorem Safe.step {n : Net} (h : Safe n) (ht : n.time < 1000000) : Safe (stepN n) := by
  obtain ⟨e1, e2, e3, _⟩ := step_parts n
  refine ⟨step_ok h.ok ht, WE_step h.ok h.we, LC_step h.ok h.we h.lc, ?_⟩
  rw [e1, e2, e3]
  exact h.rk
theorem Safe.run {n : Net} (h : Safe n) : ∀ k : Nat, n.time + k ≤ 1000000 → Safe (runN n k) := by
  intro k
  induction k with
  | zero => intro _; exact h
  | succ k ih => intro hk; exact (ih (by omega)).step (by rw [runN_time]; omega)
theorem Safe.moves {n : Net} (h : Safe n) (hi : idleN n = false) : 0 < movesV n := by
  obtain ⟨ρ, R, hR⟩ := h.rk
  have h0 : 0 ≤ movesV n := by unfold movesV; omega
  rcases Int.lt_or_eq_of_le h0 with h1 | h1
  · exact h1
  · rw [moves_some h.ok h.we h.lc hR h1.symm] at hi; cases hi
theorem Safe.always {n : Net} (h : Safe n) : ∀ (f i : Nat), n.time + i + f ≤ 1000001 → movesFrom n i f = true := by
  intro f
  induction f with
  | zero => intro i _; rfl
  | succ f ih =>
    intro i hi
    rw [movesFrom, if_neg]
    · exact ih (i + 1) (by push_cast at hi ⊢; omega)
    · intro hs
      unfold stuckN at hs
      simp only [Bool.and_eq_true, Bool.not_eq_true', beq_iff_eq] at hs
      have := (h.run i (by push_cast at hi; omega)).moves hs.1
      omega
theorem makeT_at {g : Grid} {r a b : Int} (ha : isNode g a = true) (hb : isNode g b = true) : entry ⟨g, []⟩ (makeT g r) a b = stdPort g r a b := by
  have h1 := isNode_iff.1 ha
  have h2 := isNode_iff.1 hb
  obtain ⟨N, hN⟩ : ∃ N : Nat, nodeCount g = N := ⟨(nodeCount g).toNat, by omega⟩
  obtain ⟨i, rfl⟩ : ∃ i : Nat, a = i := ⟨a.toNat, by omega⟩
  obtain ⟨j, rfl⟩ : ∃ j : Nat, b = j := ⟨b.toNat, by omega⟩
  have hi : i < N := by omega
  have hj : j < N := by omega
  have hlt : i * N + j < N * N := by
    have : (i + 1) * N ≤ N * N := Nat.mul_le_mul_right N hi
    rw [Nat.add_mul, Nat.one_mul] at this
    omega
  unfold entry makeT makeTo
  show ri _ ((i : Int) * nodeCount g + j) = _
  rw [hN]
  have e : (i : Int) * (N : Int) + (j : Int) = ((i * N + j : Nat) : Int) := by push_cast; rfl
  rw [e]
  unfold ri
  simp only [Int.toNat_natCast, List.getD_eq_getElem?_getD, List.getElem?_map, List.getElem?_range hlt, Option.map_some, Option.getD_some]
  rw [show (i * N + j) / N = i by rw [Nat.mul_comm, Nat.mul_add_div (by omega), Nat.div_eq_of_lt hj, Nat.add_zero], show (i * N + j) % N = j by rw [Nat.mul_comm, Nat.mul_add_mod, Nat.mod_eq_of_lt hj]]
def rkPort (g : Grid) (r a p : Int) : Nat :=
  min 50 (if r = 1 then (if p = 1 then a % g.w else if p = 3 then g.w - 1 - a % g.w else if p = 2 then 10 + a / g.w else 20 - a / g.w)
  else if r = 2 then (if p = 2 then a / g.w else if p = 0 then g.h - 1 - a / g.w else if p = 1 then 10 + a % g.w else 20 - a % g.w)
  else (if p = 3 then g.w - 1 - a % g.w else if p = 2 then 10 + a / g.w else if p = 0 then 20 - a / g.w else 30 + a % g.w)).toNat
def rkB (g : Grid) (r u d : Int) : Bool :=
  !(isNode g u && isNode g d && !(stdPort g r u d == 4) && !(stdPort g r (nextNode g u (stdPort g r u d)) d == 4)) ||
  (isNode g (nextNode g u (stdPort g r u d)) && Nat.blt (rkPort g r u (stdPort g r u d)) (rkPort g r (nextNode g u (stdPort g r u d)) (stdPort g r (nextNode g u (stdPort g r u d)) d)))
def rkAll : Bool := allI 4 fun w => allI 4 fun h => allI 3 fun r => allI 16 fun u => allI 16 fun d => rkB ⟨(w : Int) + 1, (h : Int) + 1⟩ ((r : Int) + 1) (u : Int) (d : Int)
set_option maxRecDepth 100000 in
theorem rk_all : rkAll = true := by decide +kernel
theorem rk_up {g : Grid} {r u d : Int} (r1 : 1 ≤ r) (r3 : r ≤ 3) (hu : isNode g u = true) (hd : isNode g d = true) (h1 : stdPort g r u d ≠ 4) (h2 : stdPort g r (nextNode g u (stdPort g r u d)) d ≠ 4) :
    rkPort g r u (stdPort g r u d) < rkPort g r (nextNode g u (stdPort g r u d)) (stdPort g r (nextNode g u (stdPort g r u d)) d) := by
  obtain ⟨hg, u0, u1⟩ := isNode_ok hu
  obtain ⟨_, d0, d1⟩ := isNode_ok hd
  obtain ⟨w, h, hw, hh, rfl⟩ := grid_cases hg
  have h0 := rk_all
  unfold rkAll at h0
  have := allI_iff.1 (allI_iff.1 (allI_iff.1 (allI_iff.1 (allI_iff.1 h0 w hw) h hh) (r - 1).toNat (by omega)) u.toNat (by omega)) d.toNat (by omega)
  rw [Int.toNat_of_nonneg u0, Int.toNat_of_nonneg d0, Int.toNat_of_nonneg (by omega), show r - 1 + 1 = r by omega] at this
  unfold rkB at this
  rw [hu, hd, beq_eq_false_iff_ne.2 h1, beq_eq_false_iff_ne.2 h2] at this
  simp only [Bool.not_false, Bool.and_true, Bool.not_true, Bool.false_or, Bool.and_eq_true] at this
  exact Nat.blt_eq.mp this.2
theorem std_next {g : Grid} {r u d : Int} (hg : 1 ≤ g.w ∧ g.w ≤ 4 ∧ 1 ≤ g.h ∧ g.h ≤ 4) (r1 : 1 ≤ r) (r4 : r ≤ 4) (hu : isNode g u = true) (hd : isNode g d = true) (h1 : stdPort g r u d ≠ 4) : isNode g (nextNode g u (stdPort g r u d)) = true := by
  have ht := make_ok hg.1 hg.2.1 hg.2.2.1 hg.2.2.2 r1 r4
  have hne : u ≠ d := fun e => h1 (by unfold stdPort; rw [if_pos e])
  have := (hop (m := ⟨g, []⟩) ht hu hd hne).nd
  rw [makeT_at hu hd] at this
  exact this
theorem std_ranks {g : Grid} {r s : Int} (hg : 1 ≤ g.w ∧ g.w ≤ 4 ∧ 1 ≤ g.h ∧ g.h ≤ 4) (r1 : 1 ≤ r) (r3 : r ≤ 3) (s1 : 1 ≤ s) (s3 : s ≤ 3) : Ranks ⟨g, []⟩ (makeT g r) (makeT g s) (fun c a p => if c = 1 then rkPort g s a p else rkPort g r a p) 50 := by
  refine ⟨fun c a p => ?_, fun c u d c0 c1 hu hd => ?_⟩
  · try dsimp only
    split
    · exact Nat.min_le_left _ _
    · exact Nat.min_le_left _ _
  · unfold tabOf
    have hm : (⟨g, []⟩ : Mesh).g = g := rfl
    rw [hm] at hu hd
    by_cases hc : c = 1
    · rw [if_pos hc, if_pos hc, if_pos hc, makeT_at hu hd]
      intro h1
      rw [makeT_at (std_next hg s1 (by omega) hu hd h1) hd]
      exact rk_up s1 s3 hu hd h1
    · rw [if_neg hc, if_neg hc, if_neg hc, makeT_at hu hd]
      intro h1
      rw [makeT_at (std_next hg r1 (by omega) hu hd h1) hd]
      exact rk_up r1 r3 hu hd h1
theorem newN_own {m : Mesh} {pa pb : List Int} {a p c : Int} (ha : isNode m.g a = true) (p0 : 0 ≤ p) (p4 : p ≤ 4) (c0 : 0 ≤ c) (c1 : c ≤ 1) : ownAt (newN m pa pb) a p c = -1 := by
  have h1 := isNode_iff.1 ha
  have hc := count_nat m.g
  unfold ownAt
  obtain ⟨k, hk⟩ : ∃ k : Nat, 10 * a + 2 * p + c = (k : Int) := ⟨(10 * a + 2 * p + c).toNat, by omega⟩
  rw [hk]
  exact ri_rep (by omega)
theorem WE_new (m : Mesh) (pa pb : List Int) : WE (newN m pa pb) := by
  refine ⟨fun _ => none, fun _ => none, fun _ => none, fun _ _ => none, ⟨fun b _ _ => ?_, fun a _ _ => ?_, fun a c _ _ => ?_, fun _ _ _ _ _ => rfl, fun a p c hp c0 c1 => ?_, fun a p p' c hp hp' c0 c1 h _ => ?_⟩, ⟨fun a j c t _ _ _ _ e => (by cases e), fun a p c t _ _ _ e => (by unfold dn at e; split at e <;> cases e), fun a p c ha p0 p4 c0 c1 e => absurd (newN_own (m := m) (pa := pa) (pb := pb) ha p0 p4 c0 c1) e, fun a q c _ _ _ _ _ e => absurd rfl e⟩⟩
  · rw [show rl (newN m pa pb).bufs b = [] from rl_replicate _ _]; rfl
  · rw [show rl (newN m pa pb).srcs a = [] from rl_replicate _ _]; rfl
  · rw [show rl (newN m pa pb).arrs a = [] from rl_replicate _ _]; rfl
  · left
    exact ⟨newN_own (m := m) (pa := pa) (pb := pb) hp.1 hp.2.1 hp.2.2.1 c0 c1, by unfold dn; split <;> rfl⟩
  · exfalso
    rw [newN_own (m := m) (pa := pa) (pb := pb) hp.1 hp.2.1 hp.2.2.1 c0 c1] at h
    omega
theorem run_flits {p : Packet} (h1 : 1 ≤ p.len) : ∀ k : Nat, (k : Int) ≤ p.len → runF none (flitsTo p k) = some (if k = 0 ∨ (k : Int) = p.len then none else some (p.id, p.dst, p.cls)) := by
  intro k
  induction k with
  | zero => intro _; simp [flitsTo, runF]
  | succ k ih =>
    intro hk
    rw [flitsTo_succ, run_snoc _ _ _ _ (ih (by omega))]
    have hx : nx (if k = 0 ∨ (k : Int) = p.len then none else some (p.id, p.dst, p.cls)) (flitAt p k) = some (aft (flitAt p k)) := by
      refine nx_of (fun hh => ?_) (fun hh => ?_)
      · have : (k : Int) = 0 := by simpa [flitAt] using hh
        rw [if_pos (.inl (by omega))]
      · have h0 : ¬ (k : Int) = 0 := by simpa [flitAt] using hh
        rw [if_neg (by omega)]
        rfl
    rw [hx]
    unfold aft flitAt fid
    by_cases e : (k : Int) = p.len - 1
    · rw [if_pos (by simpa using e), if_pos (.inr (by push_cast; omega))]
    · rw [if_neg (by simp [e]), if_neg (fun h9 => by
        rcases h9 with h9 | h9
        · omega
        · push_cast at h9
          omega)]
theorem WE_send {n : Net} {p : Packet} (h : WE n) (hs : sendOk n p = true) (ok : netOk n = true) : WE (sendN n p) := by
  obtain ⟨so, si, ss, sa, hw, hx⟩ := h
  simp only [sendOk, Bool.and_eq_true] at hs
  have hp := hs.1
  obtain ⟨nd, _, _, _, l1, l5⟩ := packet_parts hp
  have nd1 := isNode_iff.1 nd
  obtain ⟨_, _, _, _, hsl, _⟩ := netOk_parts ok
  refine ⟨so, si, ss, sa, ⟨hw.buf, fun a a0 a1 => ?_, hw.arr, hw.loc, hw.own, hw.uniq⟩, ⟨hx.cv, hx.dr, hx.cl, hx.bd⟩⟩
  have e1 : (sendN n p).srcs = n.srcs.set p.src.toNat (rl n.srcs p.src ++ flitsOf n.mesh.g p) := rfl
  rw [e1] at a1 ⊢
  rw [List.length_set] at a1
  rw [rl_setI nd1.1 (by omega) a a0]
  by_cases e : a = p.src
  · rw [if_pos e, run_app _ _ _ _ (by rw [← e]; exact hw.src a a0 a1), flitsOf_yes hp, run_flits l1 _ (by omega)]
    rw [if_pos (.inr (by omega))]
  · rw [if_neg e]
    exact hw.src a a0 a1
theorem WE_snd {n : Net} {p : Packet} (h : WE n) (ok : netOk n = true) : WE (sndN n p) := by
  unfold sndN
  split
  · rename_i hs; exact WE_send h hs ok
  · exact h
theorem WE_sndTo {n : Net} (h : WE n) (ok : netOk n = true) (l : List Packet) : ∀ k, WE (sndTo n l k) := by
  intro k
  induction k with
  | zero => exact h
  | succ k ih => exact WE_snd ih (sndTo_ok ok l k)
theorem WE_sendAll {n : Net} (h : WE n) (l : List Packet) : WE (sendAllN n l) := by
  unfold sendAllN
  split
  · rename_i hc
    simp only [canAll, Bool.and_eq_true] at hc
    exact WE_sndTo h hc.1 l _
  · exact h
end Go.Proofs.Ytodbglncccgdbaa
namespace Go.Proofs.Ytodbglncccgdbaa
open Go.RowKit Go.Proofs.YtodbglncccgdbaaW.PrintWords
open NoC
theorem rl_set (l : List (List Flit)) (i : Nat) (x : List Flit) (b : Int) (b0 : 0 ≤ b) : rl (l.set i x) b = if b = (i : Int) ∧ i < l.length then x else rl l b := by
  unfold rl
  rw [List.getD_eq_getElem?_getD, List.getD_eq_getElem?_getD, List.getElem?_set]
  by_cases h : i = b.toNat
  · have hb : b = (i : Int) := by omega
    subst h
    by_cases hl : b.toNat < l.length
    · simp [hl, ← hb]
    · simp [hl, List.getElem?_eq_none (by omega : l.length ≤ b.toNat)]
  · have : ¬ b = (i : Int) := by omega
    simp [h, this]
theorem flits_len {g : Grid} {p : Packet} (h : packetOk g p = true) : ((flitsOf g p).length : Int) = p.len := by
  obtain ⟨_, _, _, _, h5, _⟩ := packet_parts h
  rw [flitsOf_yes h, flitsTo_len]; omega
theorem snd_mesh (n : Net) (l : List Packet) : ∀ k, (sndTo n l k).mesh = n.mesh := fun k => (sndTo_rest n l k).2.2.1
theorem snd_room (n : Net) (l : List Packet) (h0 : ∀ a, (rl n.srcs a).length = 0) : ∀ k : Nat, ∀ a : Int, 0 ≤ a → (rl (sndTo n l k).srcs a).length ≤ 5 * k := by
  intro k
  induction k with
  | zero => intro a _; show (rl n.srcs a).length ≤ 0; rw [h0]; omega
  | succ k ih =>
    intro a ha
    show (rl (sndN (sndTo n l k) (rp l k)).srcs a).length ≤ _
    unfold sndN
    split
    · rename_i hs
      simp only [sendOk, Bool.and_eq_true, decide_eq_true_eq] at hs
      obtain ⟨hn, _, _, _, h5, h6⟩ := packet_parts hs.1
      have hn0 := (isNode_iff.1 hn).1
      have hl := flits_len hs.1
      show (rl ((sndTo n l k).srcs.set (rp l k).src.toNat _) a).length ≤ _
      rw [rl_set _ _ _ _ ha]
      split
      · rename_i h
        rw [List.length_append]
        have := ih (rp l k).src hn0
        omega
      · have := ih a ha; omega
    · have := ih a ha; omega
theorem snd_all {g : Grid} {n : Net} {l : List Packet} (hm : n.mesh.g = g) (h0 : ∀ a, (rl n.srcs a).length = 0) (hl : l.length ≤ 6) (hp : ∀ j : Nat, j < l.length → packetOk g (rp l j) = true) : ∀ k : Nat, k ≤ l.length → cntTo n l k = (k : Int) := by
  intro k
  induction k with
  | zero => intro _; rfl
  | succ k ih =>
    intro hk
    have h1 := snd_room n l h0 k (rp l k).src (by
      obtain ⟨h, _⟩ := packet_parts (hp k (by omega))
      exact (isNode_iff.1 h).1)
    obtain ⟨_, _, _, _, h5, h6⟩ := packet_parts (hp k (by omega))
    have hs : sendOk (sndTo n l k) (rp l k) = true := by
      unfold sendOk
      rw [snd_mesh, hm, hp k (by omega), decide_eq_true (by omega)]; rfl
    rw [cntTo, if_pos hs, ih (by omega)]
    omega
structure St0 (g : Grid) (r s : Int) (l : List Packet) : Prop where
  g1 : 1 ≤ g.w ∧ g.w ≤ 4 ∧ 1 ≤ g.h ∧ g.h ≤ 4 ∧ 2 ≤ nodeCount g
  r1 : 1 ≤ r ∧ r ≤ 4 ∧ 1 ≤ s ∧ s ≤ 4
  dr : Drawn g l
def nw0 (g : Grid) (r s : Int) : Net := newN ⟨g, []⟩ (makeT g r) (makeT g s)
def stt (g : Grid) (r s : Int) (l : List Packet) : Net := startN ⟨g, []⟩ (makeT g r) (makeT g s) l
namespace St0
variable {g : Grid} {r s : Int} {l : List Packet}
theorem cls (h : St0 g r s l) : classesOk ⟨g, []⟩ (makeT g r) (makeT g s) = true := std_classes ⟨h.g1.1, h.g1.2.1, h.g1.2.2.1, h.g1.2.2.2.1⟩ h.r1
theorem nok (h : St0 g r s l) : netOk (nw0 g r s) = true := newN_ok h.cls
theorem can (h : St0 g r s l) : canAll (nw0 g r s) l = true := by
  unfold canAll
  rw [h.nok, decide_eq_true (by have := h.dr.1; omega)]; rfl
theorem new (h : St0 g r s l) : netNewN ⟨g, []⟩ (makeT g r) (makeT g s) = nw0 g r s := by
  unfold netNewN
  rw [if_pos h.cls]; rfl
theorem src0 (g : Grid) (r s a : Int) : (rl (nw0 g r s).srcs a).length = 0 := by
  have : rl (nw0 g r s).srcs a = [] := rl_replicate _ _
  rw [this]; rfl
theorem buf0 (g : Grid) (r s a : Int) : rl (nw0 g r s).bufs a = [] := rl_replicate _ _
theorem all (h : St0 g r s l) : sendAllK (nw0 g r s) l = (l.length : Int) := by
  unfold sendAllK
  rw [if_pos h.can]
  exact snd_all (g := g) rfl (src0 g r s) h.dr.1 (fun j hj => (h.dr.2 j hj).1) _ (Nat.le_refl _)
theorem ok (h : St0 g r s l) : netOk (stt g r s l) = true := sendAll_ok h.nok l
theorem time (g : Grid) (r s : Int) (l : List Packet) : (stt g r s l).time = 0 := (sendAll_rest (nw0 g r s) l).1
theorem we (h : St0 g r s l) : WE (stt g r s l) := WE_sendAll (WE_new ⟨g, []⟩ (makeT g r) (makeT g s)) l
theorem bufs (g : Grid) (r s : Int) (l : List Packet) (b : Int) : rl (stt g r s l).bufs b = [] := by
  have e : (stt g r s l).bufs = (nw0 g r s).bufs := (sendAll_rest (nw0 g r s) l).2.2.2.2.2
  rw [e]; exact buf0 g r s b
theorem mesh (g : Grid) (r s : Int) (l : List Packet) : (stt g r s l).mesh = ⟨g, []⟩ := (sendAll_rest (nw0 g r s) l).2.2.1
theorem tabs (g : Grid) (r s : Int) (l : List Packet) : (stt g r s l).pa = makeT g r ∧ (stt g r s l).pb = makeT g s := ⟨(sendAll_rest (nw0 g r s) l).2.2.2.1, (sendAll_rest (nw0 g r s) l).2.2.2.2.1⟩
theorem lc (g : Grid) (r s : Int) (l : List Packet) : LC (stt g r s l) := fun a q c f _ _ _ _ _ hf => by rw [bufs] at hf; cases hf
theorem safe (h : St0 g r s l) (r3 : r ≤ 3) (s3 : s ≤ 3) : Safe (stt g r s l) := by
  have hr := std_ranks (g := g) ⟨h.g1.1, h.g1.2.1, h.g1.2.2.1, h.g1.2.2.2.1⟩ h.r1.1 r3 h.r1.2.2.1 s3
  rw [← mesh g r s l, ← (tabs g r s l).1, ← (tabs g r s l).2] at hr
  exact ⟨h.ok, h.we, lc g r s l, ⟨_, _, hr⟩⟩
theorem arrs (g : Grid) (r s : Int) (l : List Packet) : ∀ x ∈ (stt g r s l).arrs, x.length ≤ 1048576 := start_arrs _ _ _ _
theorem moves (h : St0 g r s l) (r3 : r ≤ 3) (s3 : s ≤ 3) : movesAlwaysN (stt g r s l) 80 = true := by
  unfold movesAlwaysN canRunN
  have hsafe := h.safe r3 s3
  have hm := hsafe.always 80 0 (by rw [time]; omega)
  have e : (80 : Int).toNat = 80 := rfl
  rw [h.ok, e, hm, time]
  rfl
end St0
theorem makeT_256 {g : Grid} {r : Int} : (makeT g r).length ≤ 256 := by
  have := count_le g
  unfold makeT
  rw [makeTo_len]
  have h : (nodeCount g).toNat ≤ 16 := by omega
  exact Nat.mul_le_mul h h
set_option maxHeartbeats 16000000 in
set_option maxRecDepth 100000 in
theorem impl_NetNew (m : Mesh) (pa pb : List Int) (A1 A2 A3 : Option Addr) (c1 c2 c3 : Nat) (w : World) (hm : Kd.C (Kd.int .i64) w A1 m.br.length m.br) (hn : m.br.length ≤ 2097152) (ha : Kd.C (Kd.int .i64) w A2 pa.length pa) (ka : pa.length ≤ 2097152) (hb : Kd.C (Kd.int .i64) w A3 pb.length pb) (kb : pb.length ≤ 2097152) :
  Calls Try.prog 9 #[.agg #[.int .i64 m.g.w, .int .i64 m.g.h, .slice A1 m.br.length c1], .agg #[.slice A2 pa.length c2, .slice A3 pb.length c3]] w fun e w' => GotNV w w' (netNewN m pa pb) (.bool (classesOk m pa pb)) e ∧ Below w.heap.size w w' := by
 have HM := Lib.hid hm
 have HA := Lib.hid ha
 have HB := Lib.hid hb
 clear hm ha hb
 obtain ⟨wa, ewa⟩ : ∃ z, z = ((w.alloc (.cells #[.int .i64 m.g.w, .int .i64 m.g.h, .slice A1 m.br.length c1] 28)).alloc (.cells #[.slice A2 pa.length c2, .slice A3 pb.length c3] 32)).alloc (.cells #[.int .i64 0, .int .i64 0, .slice none 0 0, .slice none 0 0, .slice none 0 0, .slice none 0 0, .slice none 0 0, .slice none 0 0, .slice none 0 0, .slice none 0 0, .int .i64 0] 38) := ⟨_, rfl⟩
 have hwa : Below w.heap.size w wa := by rw [ewa]; exact bw_alloc _ (bw_alloc _ (bw_alloc _ (bw_refl w)))
 have HXM : Hid (Box wa w.heap.size #[.int .i64 m.g.w, .int .i64 m.g.h, .slice A1 m.br.length c1]) := Lib.hid (by rw [ewa]; exact ((Box.new w w.heap.size _ 28 rfl).alloc _).alloc _)
 have HXC : Hid (Box wa (w.heap.size + 1) #[.slice A2 pa.length c2, .slice A3 pb.length c3]) := Lib.hid (by rw [ewa]; exact (Box.new (w.alloc (.cells #[.int .i64 m.g.w, .int .i64 m.g.h, .slice A1 m.br.length c1] 28)) (w.heap.size + 1) _ 32 (by simp only [szs])).alloc _)
 have HZ : Hid (BN wa (w.heap.size + 2)) := Lib.hid (by rw [ewa]; have h := BT.new ((w.alloc (.cells #[.int .i64 m.g.w, .int .i64 m.g.h, .slice A1 m.br.length c1] 28)).alloc (.cells #[.slice A2 pa.length c2, .slice A3 pb.length c3] 32)) zeroN ZQ; simp only [szs] at h; exact h.bn)
 have zwa : wa.heap.size = w.heap.size + 3 := by rw [ewa]; simp only [szs]
 have g0 : (((w.alloc (.cells #[.int .i64 m.g.w, .int .i64 m.g.h, .slice A1 m.br.length c1] 28)).alloc (.cells #[.slice A2 pa.length c2, .slice A3 pb.length c3] 32)).alloc (.cells #[.int .i64 0, .int .i64 0, .slice none 0 0, .slice none 0 0, .slice none 0 0, .slice none 0 0, .slice none 0 0, .slice none 0 0, .slice none 0 0, .slice none 0 0, .int .i64 0] 38)).cell? ⟨w.heap.size, 0, none⟩ = some (.int .i64 m.g.w) := by rw [← ewa]; exact HXM.out.get 0
 have g1 : (((w.alloc (.cells #[.int .i64 m.g.w, .int .i64 m.g.h, .slice A1 m.br.length c1] 28)).alloc (.cells #[.slice A2 pa.length c2, .slice A3 pb.length c3] 32)).alloc (.cells #[.int .i64 0, .int .i64 0, .slice none 0 0, .slice none 0 0, .slice none 0 0, .slice none 0 0, .slice none 0 0, .slice none 0 0, .slice none 0 0, .slice none 0 0, .int .i64 0] 38)).cell? ⟨w.heap.size, 1, none⟩ = some (.int .i64 m.g.h) := by rw [← ewa]; exact HXM.out.get 1
 have g2 : (((w.alloc (.cells #[.int .i64 m.g.w, .int .i64 m.g.h, .slice A1 m.br.length c1] 28)).alloc (.cells #[.slice A2 pa.length c2, .slice A3 pb.length c3] 32)).alloc (.cells #[.int .i64 0, .int .i64 0, .slice none 0 0, .slice none 0 0, .slice none 0 0, .slice none 0 0, .slice none 0 0, .slice none 0 0, .slice none 0 0, .slice none 0 0, .int .i64 0] 38)).cell? ⟨w.heap.size, 2, none⟩ = some (.slice A1 m.br.length c1) := by rw [← ewa]; exact HXM.out.get 2
 have g3 : (((w.alloc (.cells #[.int .i64 m.g.w, .int .i64 m.g.h, .slice A1 m.br.length c1] 28)).alloc (.cells #[.slice A2 pa.length c2, .slice A3 pb.length c3] 32)).alloc (.cells #[.int .i64 0, .int .i64 0, .slice none 0 0, .slice none 0 0, .slice none 0 0, .slice none 0 0, .slice none 0 0, .slice none 0 0, .slice none 0 0, .slice none 0 0, .int .i64 0] 38)).cell? ⟨w.heap.size + 1, 0, none⟩ = some (.slice A2 pa.length c2) := by rw [← ewa]; exact HXC.out.get 0
 have g4x : (((w.alloc (.cells #[.int .i64 m.g.w, .int .i64 m.g.h, .slice A1 m.br.length c1] 28)).alloc (.cells #[.slice A2 pa.length c2, .slice A3 pb.length c3] 32)).alloc (.cells #[.int .i64 0, .int .i64 0, .slice none 0 0, .slice none 0 0, .slice none 0 0, .slice none 0 0, .slice none 0 0, .slice none 0 0, .slice none 0 0, .slice none 0 0, .int .i64 0] 38)).cell? ⟨w.heap.size + 1, 1, none⟩ = some (.slice A3 pb.length c3) := by rw [← ewa]; exact HXC.out.get 1
 go_enter Try.func9, Try.ntmps9
 go_wp2_with fail
 rw [← ewa]
 clear g0 g1 g2 g3 g4x ewa
 refine (impl_ClassesOk m pa pb A1 A2 A3 c1 c2 c3 _ (Kd.C_below HM.out hwa) hn (Kd.C_below HA.out hwa) ka (Kd.C_below HB.out hwa) kb).mono ?_
 rintro e w2 ⟨rfl, hb2⟩
 have HW2 : Hid (Below w.heap.size w w2) := Lib.hid (bw_then hwa hb2)
 have HXM2 := Lib.hid (HXM.out.below hb2)
 have HXC2 := Lib.hid (HXC.out.below hb2)
 have HZ2 := Lib.hid (HZ.out.below hb2)
 have zw2 := bw_size hb2
 clear hb2 hwa HXM HXC HZ
 cases hk : classesOk m pa pb
 ·have HE : Hid (netNewN m pa pb = zeroN) := Lib.hid (by unfold netNewN; rw [hk]; rfl)
  obtain ⟨⟨ry0, rv0⟩, ⟨ry1, rv1⟩, ⟨ry2, rv2⟩, ⟨ry3, rv3⟩, ⟨ry4, rv4⟩, ⟨ry5, rv5⟩, ⟨ry6, rv6⟩, ⟨ry7, rv7⟩, ⟨ry8, rv8⟩, ⟨ry9, rv9⟩, ⟨ry10, rv10⟩, rz0, rz1, rz2, rz3, rz4, rz5, rz6, rz7, rz8, rz9, rz10⟩ := allBN HZ2.out
  have zl := HZ2.out.lt
  go_wp2
  obtain ⟨W9, e9⟩ : ∃ z, z = putN w2 (w.heap.size + 2) zeroN ZQ := ⟨_, rfl⟩
  have HB9 : Hid (BT W9 (w.heap.size + 2) zeroN ZQ) := Lib.hid (by rw [e9]; exact putN_BT HZ2.out)
  have HL9 : Hid (Below w.heap.size w W9) := Lib.hid (by rw [e9]; exact below_put HW2.out (by omega))
  unfold putN at e9
  simp only [zeroN, ZQ, List.length_nil] at e9
  rw [← e9]
  clear e9
  exact bodyPost_ret (results_cell_row2 Try.results9 _ _ (w.heap.size + 2) 38 _ (0, 0) _ rfl HB9.out Try.underlying38 rfl (by kernel_rfl)) rfl (by rw [HE.out, hk]; exact ⟨⟨_, _, _, _, rfl, NX.zero _ _⟩, HL9.out⟩)
 ·have HE : Hid (netNewN m pa pb = newN m pa pb) := Lib.hid (by unfold netNewN; rw [hk]; rfl)
  have x0 : w2.cell? ⟨w.heap.size, 0, none⟩ = some (.int .i64 m.g.w) := HXM2.out.get 0
  have x1 : w2.cell? ⟨w.heap.size, 1, none⟩ = some (.int .i64 m.g.h) := HXM2.out.get 1
  have xl := HXM2.out.lt
  go_wp2_with fail
  refine (impl_NodeCount m.g _).mono ?_
  rintro e w3 ⟨rfl, hb3⟩
  have hcn := count_nat m.g
  have k16' := count_le m.g
  obtain ⟨K, hK⟩ : ∃ K : Nat, nodeCount m.g = (K : Int) := ⟨(nodeCount m.g).toNat, by omega⟩
  have HKN : Hid ((nodeCount m.g).toNat = K) := Lib.hid (by omega)
  have k16 : K ≤ 16 := by omega
  rw [hK]
  obtain ⟨K10, eK10⟩ : ∃ z, z = 10 * K := ⟨_, rfl⟩
  obtain ⟨K5, eK5⟩ : ∃ z, z = 5 * K := ⟨_, rfl⟩
  have HK10 := Lib.hid eK10
  have HK5 := Lib.hid eK5
  have hw10 : IntKind.i64.wrap (10 * (K : Int)) = (K10 : Int) := by rw [IntWalk.i64_in _ (by omega)]; omega
  have hw5 : IntKind.i64.wrap (5 * (K : Int)) = (K5 : Int) := by rw [IntWalk.i64_in _ (by omega)]; omega
  have MK10 : Hid (∀ W : World, (Instr.makeSlice 36 (.int .i64 (K10 : Int)) (.int .i64 (K10 : Int))).run Try.prog W = .ok (.slice (some ⟨W.heap.size, 0, none⟩) K10 K10) (W.alloc (.cells (madeCells #[.slice none 0 0] K10) 87))) := Lib.hid (fun W => run_make_row' 36 87 (.slice none 0 0) 24 Try.underlying36 info_B rfl .i64 .i64 K10 (by omega) (by omega) W)
  have MK1 : Hid (∀ W : World, (Instr.makeSlice 36 (.int .i64 (K : Int)) (.int .i64 (K : Int))).run Try.prog W = .ok (.slice (some ⟨W.heap.size, 0, none⟩) K K) (W.alloc (.cells (madeCells #[.slice none 0 0] K) 87))) := Lib.hid (fun W => run_make_row' 36 87 (.slice none 0 0) 24 Try.underlying36 info_B rfl .i64 .i64 K (by omega) (by omega) W)
  have MK5 : Hid (∀ W : World, (Instr.makeSlice 26 (.int .i64 (K5 : Int)) (.int .i64 (K5 : Int))).run Try.prog W = .ok (.slice (some ⟨W.heap.size, 0, none⟩) K5 K5) (W.alloc (.cells (madeCells #[.int .i64 0] K5) 3))) := Lib.hid (fun W => run_make_row' 26 3 (.int .i64 0) 8 Try.underlying26 info_int rfl .i64 .i64 K5 (by omega) (by omega) W)
  clear eK10 eK5 hK hcn k16' x0 x1 xl
  have HW3 : Hid (Below w.heap.size w w3) := Lib.hid (bw_then HW2.out hb3)
  have HXM3 := Lib.hid (HXM2.out.below hb3)
  have HXC3 := Lib.hid (HXC2.out.below hb3)
  have HZ3 := Lib.hid (HZ2.out.below hb3)
  have HM3 := Lib.hid (Kd.C_below HM.out HW3.out)
  have HA3 := Lib.hid (Kd.C_below HA.out HW3.out)
  have HB3 := Lib.hid (Kd.C_below HB.out HW3.out)
  have zw3 := bw_size hb3
  have l1 := HXM3.out.lt
  have l2 := HXC3.out.lt
  clear hb3 HXM2 HXC2 HZ2 HM HA HB HW2
  have k10 : K10 ≤ 160 := by have := HK10.out; omega
  go_wp2_with fail
  refine wp_region_tz w3.heap.size (fun i => if i = 6 then .cells (madeCells #[.int .i64 0] K5) 3 else if i = 8 then .cells #[.int .i64 0, .int .i64 0, .slice none 0 0, .slice none 0 0, .slice none 0 0, .slice none 0 0, .slice none 0 0, .slice none 0 0, .slice none 0 0, .slice none 0 0, .int .i64 0] 38 else .cells #[] 0) (fun i g => if i = 6 then .slice (some ⟨g, 0, none⟩) K5 K5 else if i = 8 then .pointer (some ⟨g, 0, none⟩) else undef) (fun W => Below w3.heap.size w3 W) 9 [(0, .quiet), (1, .chain), (2, .quiet), (3, .chain), (4, .quiet), (5, .quiet), (6, .lit), (7, .quiet), (8, .lit)] (by kernel_rfl) (by kernel_rfl) (by kernel_rfl) (by kernel_rfl) (by kernel_rfl) (by kernel_rfl) (by kernel_rfl) (by kernel_rfl) (bw_drew (bw_refl _)) ⟨fun w o h => bw_alloc o h, fun w h => bw_size h⟩ (fun _ => True) trivial (fun _ _ _ _ _ => trivial) ?_
  refine wpTz_v (some 16) (.agg #[.int .i64 m.g.w, .int .i64 m.g.h, .slice A1 m.br.length c1]) rfl rfl (by rfl) (fun W hC => ?_) ?_
  ·have h0 : W.cell? ⟨w.heap.size, 0, none⟩ = some (.int .i64 m.g.w) := (Box.below HXM3.out hC).get 0
   have h1 : W.cell? ⟨w.heap.size, 1, none⟩ = some (.int .i64 m.g.h) := (Box.below HXM3.out hC).get 1
   have h2 : W.cell? ⟨w.heap.size, 2, none⟩ = some (.slice A1 m.br.length c1) := (Box.below HXM3.out hC).get 2
   clear hC
   go_simp
   try rfl
  try simp only [Act.put, nms]
  refine wpTz_d (some 17) rfl rfl (by rfl) (PX.mk0 none 0 0 0) (fun y => .agg #[.int .i64 m.g.w, .int .i64 m.g.h, .slice y.A m.br.length y.c]) (fun y W => gI w3.heap.size y m.br W) (fun y => (y.lo, y.hi)) (fun W hF hC => ?_) (fun y W W' h hb => h.stp ⟨hb⟩) (fun y1 => ?_)
  ·refine LoOp.enter (by go_simp; first | done | exact ⟨rfl, rfl⟩ | rfl) ?_
   refine (impl_copyMesh m A1 c1 W (Kd.C_below HM3.out hC) hn).mono ?_
   rintro e W1 ⟨hg1, hb1⟩
   obtain ⟨v, rfl, hO⟩ := hg1
   obtain ⟨A, c, rfl⟩ := Kd.R_slice hO
   exact ⟨_, rfl, PX.mk0 A c W.heap.size W1.heap.size, rfl, bw_then hC hb1, ⟨bw_size hC, bw_size hb1, Nat.le_refl _, RU.of hO (Nat.le_refl _) (Nat.le_refl _)⟩, hb1, Nat.le_refl _, Nat.le_refl _⟩
  obtain ⟨AM, cM, AM2, cM2, vsM, lM, hM⟩ := y1
  dsimp only
  try simp only [Act.put, nms]
  refine wpTz_v (some 18) (.agg #[.slice A2 pa.length c2, .slice A3 pb.length c3]) rfl rfl (by rfl) (fun W hC => ?_) ?_
  ·have h0 : W.cell? ⟨w.heap.size + 1, 0, none⟩ = some (.slice A2 pa.length c2) := (Box.below HXC3.out hC).get 0
   have h1 : W.cell? ⟨w.heap.size + 1, 1, none⟩ = some (.slice A3 pb.length c3) := (Box.below HXC3.out hC).get 1
   clear hC
   go_simp
   try rfl
  try simp only [Act.put, nms]
  refine wpTz_d (some 19) rfl rfl (by rfl) (PX.mk0 none 0 0 0) (fun y => .agg #[.slice y.A pa.length y.c, .slice y.A2 pb.length y.c2]) (fun y W => RawC w3.heap.size ⟨AM, cM, AM2, cM2, vsM, lM, hM⟩ y m pa pb W) (fun y => (y.lo, y.hi)) (fun W hF hC => ?_) (fun y W W' h hb => h.below hb) (fun y2 => ?_)
  ·refine LoOp.enter (by go_simp; first | done | exact ⟨rfl, rfl⟩ | rfl) ?_
   refine (impl_copyClasses pa pb A2 A3 c2 c3 W (Kd.C_below HA3.out hC) ka (Kd.C_below HB3.out hC) kb).mono ?_
   rintro e W1 ⟨hg1, hb1⟩
   obtain ⟨va, vb, rfl, hO1, hO2, hap⟩ := hg1
   obtain ⟨Aa, ca, rfl⟩ := Kd.R_slice hO1
   obtain ⟨Ab, cb, rfl⟩ := Kd.R_slice hO2
   exact ⟨_, rfl, ⟨Aa, ca, Ab, cb, [], W.heap.size, W1.heap.size⟩, rfl, bw_then hC hb1, ⟨hF.stp ⟨hb1⟩, hF.2.2.1, bw_size hb1, Nat.le_refl _, RU.of hO1 (Nat.le_refl _) (Nat.le_refl _), RU.of hO2 (Nat.le_refl _) (Nat.le_refl _), hap⟩, hb1, Nat.le_refl _, Nat.le_refl _⟩
  obtain ⟨AA, cA, AB, cB, vsC, lC, hCC⟩ := y2
  dsimp only
  try simp only [Act.put, nms]
  refine wpTz_v (some 20) (.int .i64 (K : Int)) rfl rfl (by rfl) (fun W hC => ?_) ?_
  ·clear hC
   go_simp
   try rfl
  try simp only [Act.put, nms]
  refine wpTz_v (some 21) (.int .i64 (K5 : Int)) rfl rfl (by rfl) (fun W hC => ?_) ?_
  ·clear hC
   go_simp
   try rfl
  try simp only [Act.put, nms]
  refine wpTz_l (some 22) rfl rfl (by rfl) (fun W => ?_) (fun g6 => ?_)
  ·have hk := MK5.out W
   go_simp
   try rfl
  try simp only [Act.put, nms]
  refine wpTz_v (some 23) (.agg #[.int .i64 m.g.w, .int .i64 m.g.h, .slice AM m.br.length cM, .slice AA pa.length cA, .slice AB pb.length cB, .slice none 0 0, .slice none 0 0, .slice (some ⟨g6, 0, none⟩) K5 K5, .slice none 0 0, .slice none 0 0, .int .i64 0]) rfl rfl (by rfl) (fun W hC => ?_) ?_
  ·clear hC
   go_simp
   try rfl
  try simp only [Act.put, nms]
  refine wpTz_l (some 7) rfl rfl (by rfl) (fun W => ?_) (fun gb => ?_)
  ·go_simp
   try rfl
  try simp only [Act.put, nms]
  refine wpTz_z (fun w8 hF hC => ?_)
  obtain ⟨⟨hR, b6, h6, i6⟩, bb, hb, ib⟩ := hF
  have hbn : BN w8 gb := ⟨_, hb, rfl⟩
  obtain ⟨⟨ry0, rv0⟩, ⟨ry1, rv1⟩, ⟨ry2, rv2⟩, ⟨ry3, rv3⟩, ⟨ry4, rv4⟩, ⟨ry5, rv5⟩, ⟨ry6, rv6⟩, ⟨ry7, rv7⟩, ⟨ry8, rv8⟩, ⟨ry9, rv9⟩, ⟨ry10, rv10⟩, rz0, rz1, rz2, rz3, rz4, rz5, rz6, rz7, rz8, rz9, rz10⟩ := allBN hbn
  have hbl := hbn.lt
  refine ⟨_, rfl, by rfl, ?_⟩
  go_simp
  obtain ⟨W9, e9⟩ : ∃ z, z = putN w8 gb { mesh := m, pa := pa, pb := pb, bufs := [], owners := [], turns := List.replicate (5 * (nodeCount m.g).toNat) 0, srcs := [], arrs := [], time := 0 } ⟨AM, AA, AB, none, none, some ⟨g6, 0, none⟩, none, none, cM, cA, cB, 0, 0, 5 * (nodeCount m.g).toNat, 0, 0⟩ := ⟨_, rfl⟩
  have HB9 : Hid (BT W9 gb { mesh := m, pa := pa, pb := pb, bufs := [], owners := [], turns := List.replicate (5 * (nodeCount m.g).toNat) 0, srcs := [], arrs := [], time := 0 } ⟨AM, AA, AB, none, none, some ⟨g6, 0, none⟩, none, none, cM, cA, cB, 0, 0, 5 * (nodeCount m.g).toNat, 0, 0⟩) := Lib.hid (by rw [e9]; exact putN_BT hbn)
  have HL9 : Hid (Below w3.heap.size w3 W9) := Lib.hid (by rw [e9]; exact below_put hC bb)
  have j6 := i6; have jb := ib
  simp only [List.forall_mem_cons, List.not_mem_nil, false_implies, implies_true, and_true] at j6 jb
  have HR9 : Hid (RawC w3.heap.size ⟨AM, cM, AM2, cM2, vsM, lM, hM⟩ ⟨AA, cA, AB, cB, vsC, lC, hCC⟩ m pa pb W9) := Lib.hid (by rw [e9]; exact raw_put hR (by dsimp only; omega) (by dsimp only; omega))
  have HG6 : Hid (W9.heap[g6]? = some (.cells (madeCells #[.int .i64 0] K5) 3 (0, 0))) := Lib.hid (by rw [e9]; exact (blk_put (by omega)).trans h6)
  unfold putN at e9
  simp only [newN, List.length_replicate, List.length_nil, HKN.out, HK10.out.symm, HK5.out.symm] at e9
  rw [← e9]
  clear e9 hC hR hb h6 hbn i6 ib
  clear rv0 rz0 rv1 rz1 rv2 rz2 rv3 rz3 rv4 rz4 rv5 rz5 rv6 rz6 rv7 rz7 rv8 rz8 rv9 rz9 rv10 rz10
  have y5 : W9.cell? ⟨gb, 5, none⟩ = some (.slice none 0 0) := HB9.out.box.get 5
  have z5 : W9.frozen? ⟨gb, 5, none⟩ = false := HB9.out.frozen 5
  have y8 : W9.cell? ⟨gb, 8, none⟩ = some (.slice none 0 0) := HB9.out.box.get 8
  have z8 : W9.frozen? ⟨gb, 8, none⟩ = false := HB9.out.frozen 8
  have y9 : W9.cell? ⟨gb, 9, none⟩ = some (.slice none 0 0) := HB9.out.box.get 9
  have z9 : W9.frozen? ⟨gb, 9, none⟩ = false := HB9.out.frozen 9
  have gl := HB9.out.lt
  have gl1 : gb < W9.heap.size + 1 := by omega
  have gl2 : gb < W9.heap.size + 1 + 1 := by omega
  have gl3 : gb < W9.heap.size + 1 + 1 + 1 := by omega
  have zw9 := bw_size HL9.out
  have mk10 := MK10.out
  have mk1 := MK1.out
  have n6 : g6 ≠ gb := by omega
  have jb1 : gb < lC ∨ hCC ≤ gb := by omega
  have jb2 : gb < lM ∨ hM ≤ gb := by omega
  clear jb
  go_wp2_with fail
  refine Code.wp_mono (Q := fun e a' w' => e = .normal ∧ ∃ g4 g7 g8 : Nat, a' = ⟨#[.agg #[.int .i64 m.g.w, .int .i64 m.g.h, .slice A1 m.br.length c1], .agg #[.slice A2 pa.length c2, .slice A3 pb.length c3], .pointer (some ⟨w.heap.size, 0, none⟩), .pointer (some ⟨w.heap.size + 1, 0, none⟩), .pointer (some ⟨w.heap.size + 1 + 1, 0, none⟩), .bool false, .int .i64 (K : Int), .pointer (some ⟨gb, 0, none⟩), .agg #[.int .i64 m.g.w, .int .i64 m.g.h, .slice A1 m.br.length c1], .agg #[.slice A2 pa.length c2, .slice A3 pb.length c3], .bool true, .bool false, undef, .pointer (some ⟨w.heap.size, 0, none⟩), .agg #[.int .i64 m.g.w, .int .i64 m.g.h], .int .i64 (K : Int), .agg #[.int .i64 m.g.w, .int .i64 m.g.h, .slice A1 m.br.length c1], .agg #[.int .i64 m.g.w, .int .i64 m.g.h, .slice AM m.br.length cM], .agg #[.slice A2 pa.length c2, .slice A3 pb.length c3], .agg #[.slice AA pa.length cA, .slice AB pb.length cB], .int .i64 (K : Int), .int .i64 (K5 : Int), .slice (some ⟨g6, 0, none⟩) K5 K5, .agg #[.int .i64 m.g.w, .int .i64 m.g.h, .slice AM m.br.length cM, .slice AA pa.length cA, .slice AB pb.length cB, .slice none 0 0, .slice none 0 0, .slice (some ⟨g6, 0, none⟩) K5 K5, .slice none 0 0, .slice none 0 0, .int .i64 0], .int .i64 (K : Int), .int .i64 (K10 : Int), .slice (some ⟨g4, 0, none⟩) K10 K10, .int .i64 (K : Int), .slice (some ⟨g7, 0, none⟩) K K, .int .i64 (K : Int), .slice (some ⟨g8, 0, none⟩) K K, .pointer (some ⟨gb, 5, none⟩), .pointer (some ⟨gb, 8, none⟩), .pointer (some ⟨gb, 9, none⟩), undef, undef, undef, undef, undef, undef, undef, undef, undef, undef, undef], []⟩ ∧ Made5 w3 m pa pb ⟨AM, cM, AM2, cM2, vsM, lM, hM⟩ ⟨AA, cA, AB, cB, vsC, lC, hCC⟩ K K10 K5 W9 gb g6 g4 g7 g8 (netCells { mesh := m, pa := pa, pb := pb, bufs := [], owners := [], turns := List.replicate (5 * (nodeCount m.g).toNat) 0, srcs := [], arrs := [], time := 0 } ⟨AM, AA, AB, none, none, some ⟨g6, 0, none⟩, none, none, cM, cA, cB, 0, 0, 5 * (nodeCount m.g).toNat, 0, 0⟩) w') ?_ ?_
  case refine_2 =>
   go_region
   all_goals exact ⟨rfl, _, _, _, rfl, made5_of HL9.out HR9.out HG6.out HB9.out bb jb2 jb1 n6 _ _ _ _ _ _ (by first | exact .inl ⟨rfl, rfl, rfl⟩ | exact .inr (.inl ⟨rfl, rfl, rfl⟩) | exact .inr (.inr ⟨rfl, rfl, rfl⟩)) (by first | exact .inl ⟨rfl, rfl, rfl⟩ | exact .inr (.inl ⟨rfl, rfl, rfl⟩) | exact .inr (.inr ⟨rfl, rfl, rfl⟩)) (by first | exact .inl ⟨rfl, rfl, rfl⟩ | exact .inr (.inl ⟨rfl, rfl, rfl⟩) | exact .inr (.inr ⟨rfl, rfl, rfl⟩)) (by omega)⟩
  rintro e a' w' ⟨rfl, g4, g7, g8, rfl, hM5⟩
  obtain ⟨hLx, hRx, g6x, g4x, g7x, g8x, ⟨p1, p2, p3⟩, ⟨q4, q7, q8⟩, hBx⟩ := hM5
  have HL9 := Lib.hid hLx
  rw [show K10 = 10 * (nodeCount m.g).toNat by rw [HKN.out]; exact HK10.out] at g4x
  rw [show K5 = 5 * (nodeCount m.g).toNat by rw [HKN.out]; exact HK5.out] at g6x
  rw [show K = (nodeCount m.g).toNat from HKN.out.symm] at g7x g8x
  obtain ⟨W9, e9⟩ : ∃ z, z = w' := ⟨_, rfl⟩
  rw [← e9] at hBx hRx g6x g4x g7x g8x
  have HN9 : Hid (NX W9 w3.heap.size { newN m pa pb with owners := [] } ⟨AM, AA, AB, some ⟨g4, 0, none⟩, none, some ⟨g6, 0, none⟩, some ⟨g7, 0, none⟩, some ⟨g8, 0, none⟩, cM, cA, cB, 10 * (nodeCount m.g).toNat, 0, 5 * (nodeCount m.g).toNat, (nodeCount m.g).toNat, (nodeCount m.g).toNat⟩ (List.replicate (10 * (nodeCount m.g).toNat) (.slice none 0 0)) (List.replicate (nodeCount m.g).toNat (.slice none 0 0)) (List.replicate (nodeCount m.g).toNat (.slice none 0 0))) := Lib.hid (NX.raw hRx (by rw [HKN.out]; exact k16) g4x g6x g7x g8x (by omega) b6 (by omega) (by omega) p1 p2 p3 (by dsimp only; omega) (by dsimp only; omega))
  have HB9 : Hid (BT W9 gb { newN m pa pb with owners := [] } ⟨AM, AA, AB, some ⟨g4, 0, none⟩, none, some ⟨g6, 0, none⟩, some ⟨g7, 0, none⟩, some ⟨g8, 0, none⟩, cM, cA, cB, 10 * (nodeCount m.g).toNat, 0, 5 * (nodeCount m.g).toNat, (nodeCount m.g).toNat, (nodeCount m.g).toNat⟩) := Lib.hid (by
   rw [show K10 = 10 * (nodeCount m.g).toNat by rw [HKN.out]; exact HK10.out, show K = (nodeCount m.g).toNat from HKN.out.symm] at hBx
   refine hBx.trans ?_
   simp [netCells, newN])
  subst e9
  go_simp
  have HGB := Lib.hid bb
  clear hBx hRx g6x g4x g7x g8x hLx
  go_wp2_with fail
  go_loopw [36] (fun i wr => ∃ (k : Nat) (A : Option Addr) (c : Nat), i = .int .i64 k ∧ k ≤ K10 ∧ Hid (NX wr w3.heap.size { newN m pa pb with owners := List.replicate k (-1) } ⟨AM, AA, AB, some ⟨g4, 0, none⟩, A, some ⟨g6, 0, none⟩, some ⟨g7, 0, none⟩, some ⟨g8, 0, none⟩, cM, cA, cB, 10 * (nodeCount m.g).toNat, c, 5 * (nodeCount m.g).toNat, (nodeCount m.g).toNat, (nodeCount m.g).toNat⟩ (List.replicate (10 * (nodeCount m.g).toNat) (.slice none 0 0)) (List.replicate (nodeCount m.g).toNat (.slice none 0 0)) (List.replicate (nodeCount m.g).toNat (.slice none 0 0))) ∧ Hid (OApart { newN m pa pb with owners := List.replicate k (-1) } ⟨AM, AA, AB, some ⟨g4, 0, none⟩, A, some ⟨g6, 0, none⟩, some ⟨g7, 0, none⟩, some ⟨g8, 0, none⟩, cM, cA, cB, 10 * (nodeCount m.g).toNat, c, 5 * (nodeCount m.g).toNat, (nodeCount m.g).toNat, (nodeCount m.g).toNat⟩) ∧ Hid (BT wr gb { newN m pa pb with owners := List.replicate k (-1) } ⟨AM, AA, AB, some ⟨g4, 0, none⟩, A, some ⟨g6, 0, none⟩, some ⟨g7, 0, none⟩, some ⟨g8, 0, none⟩, cM, cA, cB, 10 * (nodeCount m.g).toNat, c, 5 * (nodeCount m.g).toNat, (nodeCount m.g).toNat, (nodeCount m.g).toNat⟩) ∧ Hid (Below w3.heap.size w3 wr)) (fun i _ => K10 - (intOf i).toNat)
  case atStart => exact ⟨0, none, 0, rfl, Nat.zero_le _, Lib.hid HN9.out, Lib.hid (OApart.raw _ _ rfl), Lib.hid HB9.out, Lib.hid HL9.out⟩
  case round =>
   obtain ⟨k, A, c, rfl, hk, HNk, HAk, HBk, HLk⟩ := hrel
   have xb := HBk.out.lt
   by_cases hlt : k < K10
   ·have i0 : (k : Int) < (K10 : Int) := by omega
    have k0 : (0 : Int) ≤ (k : Int) := by omega
    have HO : Hid (Kd.R (Kd.int .i64) 3 wr w3.heap.size (fun _ => True) (.slice A k c) (List.replicate k (-1))) := Lib.hid (by have h := HNk.out.owners; simp only [List.length_replicate] at h; exact h)
    have y6 : wr.cell? ⟨gb, 6, none⟩ = some (.slice A k c) := by
     have h : wr.cell? ⟨gb, 6, none⟩ = some (.slice A (List.replicate k (-1 : Int)).length c) := HBk.out.box.get 6
     rwa [List.length_replicate] at h
    have hz3 := bw_size HLk.out
    go_wp2_with (at_builtin; refine app_intN (B := w3.heap.size) rfl (.tmp 39) (.tmp 40) rfl _ (List.replicate k (-1)) (-1) rfl rfl HO.out hz3 (by simp only [List.length_replicate]; omega) ?_; intro v1 w1 HO1 hg1 ha1; obtain ⟨A1x, c1x, rfl⟩ := Kd.R_slice HO1; have e1 : List.replicate k (-1 : Int) ++ [-1] = List.replicate (k + 1) (-1) := (List.replicate_succ' ..).symm; rw [e1] at HO1 ha1 ⊢; have hBg := HBk.out.grownI (v := .slice A k c) hg1 HO.out; have hst := ownStep HNk.out HAk.out HBk.out (by simp only [List.length_replicate]; exact hg1) HO1 (by simp only [List.length_replicate] at ha1 ⊢; exact ha1); obtain ⟨ry, rv⟩ := hBg.bn.get 6 (by omega); have rz := hBg.bn.frozen 6; have hl1 := hBg.lt; have HLg : Hid (Below w3.heap.size w3 w1) := Lib.hid (HLk.out.grown hg1 hz3 (fun j hj => Kd.R_base HO.out j hj)); have HST := Lib.hid hst; clear hst hBg HO1 ha1 hg1; rw [List.length_replicate])
    obtain ⟨W8, e8⟩ : ∃ z, z = w1.setCell ⟨gb, 6, none⟩ (.slice A1x (List.replicate (k + 1) (-1 : Int)).length c1x) := ⟨_, rfl⟩
    have HS8 := HST.out
    rw [← e8] at HS8
    have HL8 : Hid (Below w3.heap.size w3 W8) := Lib.hid (by rw [e8]; exact bw_set0 HLg.out HGB.out 6 _)
    rw [List.length_replicate] at e8
    try rw [← e8]
    go_roundw
    case rel => exact ⟨k + 1, A1x, c1x, by go_num, by omega, Lib.hid HS8.1, Lib.hid HS8.2.1, Lib.hid HS8.2.2, Lib.hid HL8.out⟩
    case measure => simp [intOf]; omega
   ·obtain rfl : k = K10 := by omega
    have i0 : ¬ (k : Int) < (k : Int) := by omega
    have HZk : Hid (BN wr (w.heap.size + 2)) := Lib.hid (HZ3.out.low HLk.out (by omega))
    have hKK := HK10.out
    obtain ⟨NN, hNN⟩ : ∃ z, z = newN m pa pb := ⟨_, rfl⟩
    have eNN : ({ newN m pa pb with owners := List.replicate k (-1) } : Net) = NN := by rw [hNN, hKK, ← HKN.out]; rfl
    rw [eNN] at HNk HBk
    have HNL : Hid (NN.mesh = m ∧ NN.pa = pa ∧ NN.pb = pb ∧ NN.bufs.length = k ∧ NN.owners.length = k ∧ NN.turns.length = K5 ∧ NN.srcs.length = K ∧ NN.arrs.length = K ∧ NN.time = 0) := Lib.hid (by
     have e5 := HK5.out
     have e1 := HKN.out
     subst hNN
     simp only [newN, List.length_replicate, e1]
     exact ⟨trivial, trivial, trivial, by omega, by omega, by omega, trivial, trivial, trivial⟩)
    have HNN := Lib.hid hNN
    clear hNN
    have box11 : Box wr gb #[.int .i64 NN.mesh.g.w, .int .i64 NN.mesh.g.h, .slice AM NN.mesh.br.length cM, .slice AA NN.pa.length cA, .slice AB NN.pb.length cB, .slice (some ⟨g4, 0, none⟩) NN.bufs.length (10 * (nodeCount m.g).toNat), .slice A NN.owners.length c, .slice (some ⟨g6, 0, none⟩) NN.turns.length (5 * (nodeCount m.g).toNat), .slice (some ⟨g7, 0, none⟩) NN.srcs.length (nodeCount m.g).toNat, .slice (some ⟨g8, 0, none⟩) NN.arrs.length (nodeCount m.g).toNat, .int .i64 NN.time] := HBk.out.box
    obtain ⟨yb0, yb1, yb2, yb3, yb4, yb5, yb6, yb7, yb8, yb9, yb10⟩ := all11 box11
    clear box11
    obtain ⟨⟨rq0, ru0⟩, ⟨rq1, ru1⟩, ⟨rq2, ru2⟩, ⟨rq3, ru3⟩, ⟨rq4, ru4⟩, ⟨rq5, ru5⟩, ⟨rq6, ru6⟩, ⟨rq7, ru7⟩, ⟨rq8, ru8⟩, ⟨rq9, ru9⟩, ⟨rq10, ru10⟩, rt0, rt1, rt2, rt3, rt4, rt5, rt6, rt7, rt8, rt9, rt10⟩ := allBN HZk.out
    have zl := HZk.out.lt
    go_wp2
    obtain ⟨W9, e9⟩ : ∃ z, z = putN wr (w.heap.size + 2) NN ⟨AM, AA, AB, some ⟨g4, 0, none⟩, A, some ⟨g6, 0, none⟩, some ⟨g7, 0, none⟩, some ⟨g8, 0, none⟩, cM, cA, cB, 10 * (nodeCount m.g).toNat, c, 5 * (nodeCount m.g).toNat, (nodeCount m.g).toNat, (nodeCount m.g).toNat⟩ := ⟨_, rfl⟩
    have HBz : Hid (BT W9 (w.heap.size + 2) NN ⟨AM, AA, AB, some ⟨g4, 0, none⟩, A, some ⟨g6, 0, none⟩, some ⟨g7, 0, none⟩, some ⟨g8, 0, none⟩, cM, cA, cB, 10 * (nodeCount m.g).toNat, c, 5 * (nodeCount m.g).toNat, (nodeCount m.g).toNat, (nodeCount m.g).toNat⟩) := Lib.hid (by rw [e9]; exact putN_BT HZk.out)
    have HNz := Lib.hid (show NX W9 _ NN ⟨AM, AA, AB, some ⟨g4, 0, none⟩, A, some ⟨g6, 0, none⟩, some ⟨g7, 0, none⟩, some ⟨g8, 0, none⟩, cM, cA, cB, 10 * (nodeCount m.g).toNat, c, 5 * (nodeCount m.g).toNat, (nodeCount m.g).toNat, (nodeCount m.g).toNat⟩ (List.replicate (10 * (nodeCount m.g).toNat) (.slice none 0 0)) (List.replicate (nodeCount m.g).toNat (.slice none 0 0)) (List.replicate (nodeCount m.g).toNat (.slice none 0 0)) from by rw [e9]; exact HNk.out.put HZk.out)
    have HLz : Hid (Below w.heap.size w W9) := Lib.hid (by rw [e9]; exact below_put (bw_trans HW3.out HLk.out (by omega)) (by omega))
    unfold putN at e9
    try dsimp only at e9
    rw [← e9]
    clear e9
    exact bodyPost_ret (results_cell_row2 Try.results9 _ _ (w.heap.size + 2) 38 _ (0, 0) _ rfl HBz.out Try.underlying38 rfl (by kernel_rfl)) rfl (by rw [HE.out, ← HNN.out]; exact ⟨⟨_, _, _, _, rfl, HNz.out.lower (by omega)⟩, HLz.out⟩)
theorem laws_big (A : Option Addr) (N c : Nat) (w : World) : Calls Try.prog 7 #[.slice A N c] w fun e w' => e = .returned (.bool (decide ((1048576 : Int) < (N : Int)))) ∧ w = w' := by
  go_enter Try.func7, Try.ntmps7
  go_wp2
  go_ret
  exact ⟨rfl, rfl⟩
theorem NetR.time {e : Nat} {w : World} {n : Net} {t : Int} {q : NA} (h : NetR e w { n with time := t } q) : NetR e w n q := ⟨h.br, h.pa, h.pb, h.bufs, h.owners, h.turns, h.srcs, h.arrs, h.h1, h.h2, h.h3, h.h4, h.h5, h.h6, h.h7, h.h8, h.h9, h.h10, h.h11⟩
def Plc (w : World) (b off : Nat) (x0 x1 x2 : Int) : Prop := b < w.heap.size ∧ w.cell? ⟨b, off, none⟩ = some (.int .i64 x0) ∧ w.cell? ⟨b, off + 1, none⟩ = some (.int .i64 x1) ∧ w.cell? ⟨b, off + 2, none⟩ = some (.int .i64 x2)
theorem Plc.below {w w1 : World} {b off : Nat} {x0 x1 x2 : Int} (h : Plc w b off x0 x1 x2) (hb : Below w.heap.size w w1) : Plc w1 b off x0 x1 x2 :=
  ⟨Nat.lt_of_lt_of_le h.1 hb.size, ((bcell hb).1 b off h.1).trans h.2.1, ((bcell hb).1 b (off + 1) h.1).trans h.2.2.1, ((bcell hb).1 b (off + 2) h.1).trans h.2.2.2⟩
theorem DrN.arrs {n : Net} (h : DrN n) : ∀ i : Nat, (rl n.arrs i).length ≤ 880 := by
  obtain ⟨g, r, s, l, k, hg, hr, hd, hk, rfl⟩ := h
  intro i
  have h1 := run_arrs (sendAllN (newN ⟨g, []⟩ (makeT g r) (makeT g s)) l) i k
  have h2 : (rl (sendAllN (newN ⟨g, []⟩ (makeT g r) (makeT g s)) l).arrs i).length = 0 := by
    rw [(sendAll_rest _ l).2.1]
    have : rl (newN ⟨g, []⟩ (makeT g r) (makeT g s)).arrs i = [] := rl_replicate _ _
    rw [this]; rfl
  omega
end Go.Proofs.Ytodbglncccgdbaa
namespace Go.Proofs.Ytodbglncccgdbaa
open Go.ChangeShapes Go.WideShapes Go.ChangeAt Go.RowKit Go.Proofs.YtodbglncccgdbaaW.PrintWords
open NoC
section
variable {H : Type} {enc : TypeId × Value → H} {W : World} {base : Nat} {spare : Nat → Bool} {held : Bool} {fuel : Nat} {cs : List Value} {x : DataW H × List MemPlace}
def Light (t : TypeId) (d : DataW H) : Prop := ∀ n ∈ d.weights Try.prog t, n ≤ reachBytes
theorem light_arg {ts : List TypeId} {ds : List (DataW H)} (h : (DataW.weightsEach Try.prog ts ds).all (· ≤ reachBytes) = true) {j : Nat} {t : TypeId} {d : DataW H} (ht : ts[j]? = some t) (hd : ds[j]? = some d) : Light t d :=
  fun n hn => by simpa using List.all_eq_true.1 h n (DataW.weights_mem_each ht hd n hn)
end
section
variable {H : Type} {enc : TypeId × Value → H} {W : World} {base : Nat} {spare : Nat → Bool} {held : Bool} {fuel : Nat} {cs : List Value} {x : DataW H × List MemPlace}
end
section
variable {H : Type} {enc : TypeId × Value → H} {W : World} {base : Nat} {spare : Nat → Bool} {held : Bool} {fuel : Nat} {cs : List Value} {x : DataW H × List MemPlace}
theorem op_bytes (h : DataW.trod enc Try.prog W base spare held fuel 22 cs = some x) (hl : Light 22 x.1) :
    ∃ A c N, cs = [.slice A N c] ∧ Byt W A N := by
  rcases open_ints Try.underlying22 Try.underlying5 (by kernel_rfl) h with ⟨rfl, _⟩ | ⟨a, len, cap, zs, rfl, _, hle, hm, hz, hx, hc, _⟩
  · exact ⟨none, 0, 0, rfl, by decide, fun n h => absurd h (Nat.not_lt_zero _)⟩
  · have hlen : len ≤ zs.length := by rw [hz]; split <;> omega
    have e : (zs.take len).length = len := by rw [List.length_take, Nat.min_eq_left hlen]
    have hb : len * 1 ≤ 140737488351232 := by
      subst hx
      have z := hl _ (by unfold DataW.weights; rw [show Try.prog.underlying 22 = _ from Try.underlying22]; exact List.mem_cons_self)
      rw [show Try.prog.bytesOf 5 = 1 by kernel_rfl] at z
      have hr : reachBytes = 140737488351232 := by decide
      have h1 : (lits (H := H) .u8 (zs.take len)).length = len := by simp [lits, hlen]
      rw [h1] at z
      omega
    have hC : Kd.C (Kd.int .u8) W (some a) (zs.take len).length (zs.take len) := by
      refine ⟨rfl, by rw [e]; omega, fun _ => ⟨a, rfl, ?_⟩⟩
      intro j p hj
      refine ⟨[.int .u8 p], rfl, rfl, ?_⟩
      intro i u hi
      obtain ⟨rfl, rfl⟩ : i = 0 ∧ u = .int .u8 p := by
        cases i with
        | zero => simp at hi; exact ⟨rfl, hi.symm⟩
        | succ i => simp at hi
      have hj2 := List.getElem?_eq_some_iff.1 hj
      obtain ⟨hj3, hj4⟩ := hj2
      have hj5 : j < zs.length := by omega
      have := hc j hj5
      rw [show j * (Kd.int .u8).sz + 0 = j by show j * 1 + 0 = j; omega, this]
      rw [List.getElem_take] at hj4
      simp [hj5, hj4]
    refine ⟨some a, cap, len, rfl, by omega, fun n hn => ?_⟩
    obtain ⟨B, off, ha, hB, hcell⟩ := rdU_at hC n (by omega)
    exact ⟨B, off, _, ha, hB, hcell n (by omega)⟩
end
end Go.Proofs.Ytodbglncccgdbaa
