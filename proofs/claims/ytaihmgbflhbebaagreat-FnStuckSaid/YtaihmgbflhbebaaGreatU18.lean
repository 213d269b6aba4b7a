/- Lemmas for laws of this seat, for all inputs: Fr MW Sk Pg Wt Cyc Sc RunJ RunT RunU RunB WtL NetM NetK WaI. -/
import Derived.Test.YtaihmgbflhbebaaGreatU17
import Derived.Test.YtaihmgbflhbebaaGreatU7
import Derived.Test.YtaihmgbflhbebaaGreatU11
import Derived.Test.YtaihmgbflhbebaaGreatU3
import Derived.RangeFuncBox
import Derived.Laws.Cover3
import Derived.Test.YtaihmgbflhbebaaGreatU14
import Derived.Test.YtaihmgbflhbebaaGreatU16
import Derived.Test.YtaihmgbflhbebaaGreatU8
import Derived.Test.YtaihmgbflhbebaaGreatU9
import Derived.StillTailTactics
set_option linter.unusedVariables false
set_option linter.unusedSimpArgs false
namespace NoC
theorem front {n : Net} {so si : Int → FS} {ss : Int → FS} {sa : Int → Int → FS} (hw : WI n so si ss sa) (hx : WX n so si sa) {a i : Int} (h : At n a i) (h0 : 0 < (bufOf n a i).length) :
    wantedN n a i = entry n.mesh (tabOf n.pa n.pb (i % 2)) a (rf (bufOf n a i) 0).dst ∧ ((rf (bufOf n a i) 0).head = false → ownAt n a (wantedN n a i) (i % 2) = i / 2) ∧ nx (so (10 * a + i)) (rf (bufOf n a i) 0) = some (aft (rf (bufOf n a i) 0)) := by
  have i0 := h.i0; have i9 := h.i9
  obtain ⟨x0, x1, x2, x3, _⟩ := h.idx
  obtain ⟨f, rest, hf⟩ : ∃ f rest, rl n.bufs (10 * a + i) = f :: rest := by
    cases e : rl n.bufs (10 * a + i) with
    | nil => unfold bufOf at h0; rw [e] at h0; simp at h0
    | cons f r => exact ⟨f, r, rfl⟩
  have e0 : rf (bufOf n a i) 0 = f := by unfold bufOf; rw [hf]; rfl
  obtain ⟨r1, _⟩ := run_cons (by rw [← hf]; exact hw.buf (10 * a + i) x2 x3)
  rw [e0]
  have eb : 10 * a + 2 * (i / 2) + i % 2 = 10 * a + i := by omega
  cases hh : f.head
  · have hso := nx_body r1 hh
    obtain ⟨p, hp, hown⟩ := hx.cv a (i / 2) (i % 2) (fid f) (by omega) (by omega) (by omega) (by omega) (by rw [eb]; exact hso)
    obtain ⟨_, p0, p4, _⟩ := id hp
    have hop : ownPort n a i = p := by
      have := ownPort_yes (n := n) (a := a) (i := i) p.toNat (by omega) (by rw [Int.toNat_of_nonneg p0]; exact hown) (fun j hj e => by
        have ho := hx.cl a (j : Int) (i % 2) h.nd (by omega) (by omega) (by omega) (by omega) (by omega)
        have := hw.uniq a (j : Int) p (i % 2) ho hp (by omega) (by omega) (by omega) (by rw [e, hown])
        omega)
      rw [this]; omega
    have hwd : wantedN n a i = p := by rw [wanted_3 h0 (by rw [e0]; exact hh), hop]
    refine ⟨?_, fun _ => by rw [hwd]; exact hown, r1⟩
    rw [hwd]
    rcases hw.own a p (i % 2) hp (by omega) (by omega) with ⟨o1, _⟩ | ⟨s, o1, o2, o3⟩
    · omega
    · rw [hown, eb, hso] at o3
      have := (hx.dr a p (i % 2) s hp (by omega) (by omega) o1).1
      rw [← Option.some.inj o3] at this
      exact this.symm
  · refine ⟨?_, fun e => (by cases e), r1⟩
    have := wanted_2 h0 (by rw [e0]; exact hh)
    rw [e0] at this
    exact this
theorem requests_of {n : Net} {a i p : Int} (i0 : 0 ≤ i) (i9 : i ≤ 9) (p0 : 0 ≤ p) (p4 : p ≤ 4) (h : requestN n a i p = true) : i ∈ requestsN n a p := by
  unfold requestsN requestsTo
  obtain ⟨k, rfl⟩ : ∃ k : Nat, i = k := ⟨i.toNat, by omega⟩
  refine List.mem_map.2 ⟨k, List.mem_filter.2 ⟨List.mem_range.2 (by omega), ?_⟩, rfl⟩
  rw [reqI_in p0 p4]
  exact h
theorem firstTo_some {l : List Int} {turn : Int} (h : smallL l) : ∀ k, 0 < k → k ≤ l.length → 0 ≤ firstTo l turn k := by
  intro k
  induction k with
  | zero => intro h; omega
  | succ k ih =>
    intro _ hk
    have h2 := h k (by omega)
    rw [firstTo_succ l turn k (by omega)]
    unfold better
    split
    · exact h2.1
    · split
      · exact h2.1
      · omega
theorem gst_keeps (n : Net) (a : Int) : ∀ p : Nat, (gst n a p).2 ≠ [] → (gst n a (p + 1)).2 ≠ [] := by
  intro p h
  rw [gst]
  split
  · simp
  · exact h
theorem grants_some {n : Net} {a i p : Int} (i0 : 0 ≤ i) (i9 : i ≤ 9) (p0 : 0 ≤ p) (p4 : p ≤ 4) (h : requestN n a i p = true) : grantsN n a ≠ [] := by
  intro he
  have back : ∀ k : Nat, k ≤ 5 → (gst n a k).2 = [] := by
    have : ∀ j k : Nat, k + j = 5 → (gst n a k).2 = [] := by
      intro j
      induction j with
      | zero => intro k hk; obtain rfl : k = 5 := (by omega); exact he
      | succ j ih =>
        intro k hk
        have h1 := ih (k + 1) (by omega)
        cases e : (gst n a k).2 with
        | nil => rfl
        | cons x xs => exact absurd h1 (gst_keeps n a k (by rw [e]; simp))
    exact fun k hk => this (5 - k) k (by omega)
  have us : ∀ k : Nat, k ≤ 5 → (gst n a k).1 = [false, false, false, false, false] := by
    intro k
    induction k with
    | zero => intro _; rfl
    | succ k ih =>
      intro hk
      have h1 := back (k + 1) hk
      rw [gst] at h1 ⊢
      split at h1
      · simp at h1
      · rename_i hn
        rw [if_neg hn]
        exact ih (by omega)
  obtain ⟨q, rfl⟩ : ∃ q : Nat, p = q := ⟨p.toNat, by omega⟩
  have h1 := back (q + 1) (by omega)
  rw [gst] at h1
  have hl : i ∈ leftOf n a q (gst n a q).1 := by
    unfold leftOf
    rw [us q (by omega)]
    refine List.mem_filter.2 ⟨requests_of i0 i9 p0 p4 h, ?_⟩
    have : ∀ k : Nat, k ≤ 4 → ([false, false, false, false, false] : List Bool).getD k false = false := by
      intro k hk
      rcases (by omega : k = 0 ∨ k = 1 ∨ k = 2 ∨ k = 3 ∨ k = 4) with rfl | rfl | rfl | rfl | rfl <;> rfl
    unfold keepU usedAt
    rw [this _ (by omega)]
    rfl
  have hp : 0 ≤ pick n a q (gst n a q).1 := firstTo_some (smallL_mem (left_small n a q _)) _ (List.length_pos_of_mem hl) (Nat.le_refl _)
  rw [if_pos hp] at h1
  simp at h1
theorem grants_all {n : Net} {a : Int} (ha : isNode n.mesh.g a = true) {g : Grant} (h : g ∈ grantsN n a) : g ∈ allGrants n := by
  have h1 := isNode_iff.1 ha
  unfold allGrants allTo joinI
  refine List.mem_flatMap.2 ⟨a.toNat, List.mem_range.2 (by omega), ?_⟩
  rw [Int.toNat_of_nonneg h1.1]
  exact h
def waitsB (n : Net) (b : Int) : Bool :=
  decide (0 ≤ wantedN n (b / 10) (b % 10)) && decide (wantedN n (b / 10) (b % 10) ≠ 4) && live n.mesh (4 * (b / 10) + wantedN n (b / 10) (b % 10)) && !requestN n (b / 10) (b % 10) (wantedN n (b / 10) (b % 10))
def waitTo (n : Net) (b : Int) : Int :=
  if roomN n (b / 10) (wantedN n (b / 10) (b % 10)) (b % 10 % 2) = true then 10 * (b / 10) + 2 * ownAt n (b / 10) (wantedN n (b / 10) (b % 10)) (b % 10 % 2) + b % 10 % 2 else behindI n (b / 10) (wantedN n (b / 10) (b % 10)) (b % 10 % 2)
def waitsTo (n : Net) (k : Nat) : List Wait := ((List.range k).filter (fun (b : Nat) => waitsB n b)).map (fun (b : Nat) => ⟨b, waitTo n b⟩)
def waitsN (n : Net) : List Wait := if netOk n = true then waitsTo n n.bufs.length else []
theorem waitsTo_yes {n : Net} {k : Nat} (h : waitsB n k = true) : waitsTo n (k + 1) = waitsTo n k ++ [⟨k, waitTo n k⟩] := by simp [waitsTo, List.range_succ, List.filter_append, h]
theorem waitsTo_no {n : Net} {k : Nat} (h : waitsB n k = false) : waitsTo n (k + 1) = waitsTo n k := by simp [waitsTo, List.range_succ, List.filter_append, h]
theorem waitsTo_len (n : Net) (k : Nat) : (waitsTo n k).length ≤ k := by
  unfold waitsTo
  rw [List.length_map]
  exact Nat.le_trans (List.length_filter_le _ _) (by simp)
theorem buf_at {n : Net} (ok : netOk n = true) {b : Int} (h0 : 0 ≤ b) (h1 : b < (n.bufs.length : Int)) : At n (b / 10) (b % 10) := by
  obtain ⟨_, e1, _⟩ := netOk_parts ok
  exact ⟨ok, isNode_iff.2 ⟨by omega, by omega⟩, by omega, by omega⟩
theorem bufs_len {n : Net} (ok : netOk n = true) : n.bufs.length ≤ 160 := by
  obtain ⟨_, e1, _⟩ := netOk_parts ok
  have := count_le n.mesh.g
  omega
theorem owner_range {n : Net} {a i : Int} (h : At n a i) {p c : Int} (h0 : 0 ≤ p) (h4 : p ≤ 4) (c0 : 0 ≤ c) (c1 : c ≤ 1) : -1 ≤ ownAt n a p c ∧ ownAt n a p c ≤ 4 := by
  obtain ⟨_, h1, h2, h3, _, _, _, _, ho, _⟩ := netOk_parts h.ok
  have h5 := isNode_iff.1 h.nd
  have h6 := ho (10 * a + 2 * p + c).toNat (by omega)
  rw [Int.toNat_of_nonneg (by omega), inside_iff] at h6
  exact h6
theorem owner_some {n : Net} {a i p : Int} (h : At n a i) (hw : wantedN n a i = p) (hp : 0 ≤ p) (h4 : p ≤ 4) (hr : roomN n a p (i % 2) = true) (hq : requestN n a i p = false) : 0 ≤ ownAt n a p (i % 2) ∧ ownAt n a p (i % 2) ≤ 4 := by
  have i0 := h.i0
  obtain ⟨h1, h2⟩ := owner_range h hp h4 (c := i % 2) (by omega) (by omega)
  have hl := wanted_len (n := n) (a := a) (i := i) (by omega)
  cases hh : (rf (bufOf n a i) 0).head
  · have h3 := wanted_3 hl hh
    rw [hw] at h3
    have h5 : ownAt n a p (i % 2) = i / 2 := by
      have key : ∀ k : Int, ownPort n a i = k → 0 ≤ k → ownAt n a k (i % 2) = i / 2 := by
        intro k hk k0
        unfold ownPort at hk
        split at hk
        · subst hk; assumption
        · split at hk
          · subst hk; assumption
          · split at hk
            · subst hk; assumption
            · split at hk
              · subst hk; assumption
              · split at hk
                · subst hk; assumption
                · omega
      exact key p h3.symm hp
    omega
  · rw [request_1 hw hr hh, beq_eq_false_iff_ne] at hq
    omega
theorem waits_1 {n : Net} {b : Int} (h : wantedN n (b / 10) (b % 10) < 0) : waitsB n b = false := by
  have : ¬ 0 ≤ wantedN n (b / 10) (b % 10) := by omega
  simp [waitsB, this]
theorem waits_2 {n : Net} {b : Int} (h : wantedN n (b / 10) (b % 10) = 4) : waitsB n b = false := by simp [waitsB, h]
theorem waits_3 {n : Net} {b p : Int} (hw : wantedN n (b / 10) (b % 10) = p) (h : live n.mesh (4 * (b / 10) + p) = false) : waitsB n b = false := by simp [waitsB, hw, h]
theorem waits_4 {n : Net} {b p : Int} (hw : wantedN n (b / 10) (b % 10) = p) (h : requestN n (b / 10) (b % 10) p = true) : waitsB n b = false := by simp [waitsB, hw, h]
theorem waits_5 {n : Net} {b p : Int} (hw : wantedN n (b / 10) (b % 10) = p) (h0 : 0 ≤ p) (h4 : ¬ p = 4) (hl : live n.mesh (4 * (b / 10) + p) = true) (h : requestN n (b / 10) (b % 10) p = false) : waitsB n b = true := by simp [waitsB, hw, h, h0, h4, hl]
theorem waitTo_room {n : Net} {b p : Int} (hw : wantedN n (b / 10) (b % 10) = p) (hr : roomN n (b / 10) p (b % 10 % 2) = true) : waitTo n b = 10 * (b / 10) + 2 * ownAt n (b / 10) p (b % 10 % 2) + b % 10 % 2 := by rw [waitTo, hw, hr]; exact if_pos rfl
theorem waitTo_full {n : Net} {b p : Int} (hw : wantedN n (b / 10) (b % 10) = p) (hr : roomN n (b / 10) p (b % 10 % 2) = false) : waitTo n b = behindI n (b / 10) p (b % 10 % 2) := by rw [waitTo, hw, hr]; exact if_neg (by decide)
structure Stk (n : Net) (so si : Int → FS) (ss : Int → FS) (sa : Int → Int → FS) : Prop where
  ok : netOk n = true
  hw : WI n so si ss sa
  hx : WX n so si sa
  gr : allGrants n = []
  en : enteringN n = []
section
variable {n : Net} {so si : Int → FS} {ss : Int → FS} {sa : Int → Int → FS}
theorem Stk.req (S : Stk n so si ss sa) {a i p : Int} (ha : isNode n.mesh.g a = true) (i0 : 0 ≤ i) (i9 : i ≤ 9) (p0 : 0 ≤ p) (p4 : p ≤ 4) : requestN n a i p = false := by
  cases h : requestN n a i p
  · rfl
  · have h1 := grants_some i0 i9 p0 p4 h
    cases e : grantsN n a with
    | nil => exact absurd e h1
    | cons g gs =>
      have := grants_all ha (g := g) (by rw [e]; simp)
      rw [S.gr] at this
      cases this
theorem Stk.enter (S : Stk n so si ss sa) {a : Int} (a0 : 0 ≤ a) (a1 : a < (n.srcs.length : Int)) (h : 0 < (rl n.srcs a).length) : 3 ≤ (rl n.bufs (10 * a + 8 + (rf (rl n.srcs a) 0).cls)).length := by
  obtain ⟨k, rfl⟩ : ∃ k : Nat, a = k := ⟨a.toNat, by omega⟩
  rcases Nat.lt_or_ge (rl n.bufs (10 * (k : Int) + 8 + (rf (rl n.srcs (k : Int)) 0).cls)).length 3 with h3 | h3
  · exfalso
    have he : enters n k = true := by unfold enters; rw [decide_eq_true h, decide_eq_true h3]; rfl
    have : (k : Int) ∈ enteringN n := List.mem_map.2 ⟨k, List.mem_filter.2 ⟨List.mem_range.2 (by omega), he⟩, rfl⟩
    rw [S.en] at this
    cases this
  · exact h3
theorem bufs_lt (ok : netOk n = true) {a b : Int} (ha : isNode n.mesh.g a = true) (b0 : 0 ≤ b) (b9 : b ≤ 9) : 10 * a + b < (n.bufs.length : Int) := by
  obtain ⟨_, e1, _⟩ := netOk_parts ok
  have := isNode_iff.1 ha
  omega
theorem Stk.body (S : Stk n so si ss sa) {a p c : Int} {t : Int × Int × Int} (hp : opens n.mesh a p) (c0 : 0 ≤ c) (c1 : c ≤ 1) (hd : dn n.mesh si sa a p c = some t) (hne : 0 < (rl n.bufs (10 * a + 2 * ownAt n a p c + c)).length) : roomN n a p c = false := by
  rcases S.hw.own a p c hp c0 c1 with ⟨_, o2⟩ | ⟨s, o1, o2, o3⟩
  · rw [o2] at hd; cases hd
  · rw [hd] at o1
    obtain rfl := Option.some.inj o1
    have or := owner_range (i := 0) ⟨S.ok, hp.1, by omega, by omega⟩ hp.2.1 hp.2.2.1 c0 c1
    obtain ⟨q, hq⟩ : ∃ q, ownAt n a p c = q := ⟨_, rfl⟩
    rw [hq] at o2 o3 or hne
    have hA : At n a (2 * q + c) := ⟨S.ok, hp.1, by omega, by omega⟩
    have e1 : (2 * q + c) % 2 = c := by omega
    have e2 : (2 * q + c) / 2 = q := by omega
    have e3 : 10 * a + (2 * q + c) = 10 * a + 2 * q + c := by omega
    have h0 : 0 < (bufOf n a (2 * q + c)).length := by unfold bufOf; rw [e3]; exact hne
    obtain ⟨f1, f2, f3⟩ := front S.hw S.hx hA h0
    rw [e3, o3] at f3
    rw [e1] at f1 f2
    have hh : (rf (bufOf n a (2 * q + c)) 0).head = false := by
      cases hh : (rf (bufOf n a (2 * q + c)) 0).head
      · rfl
      · have := nx_head f3 hh; cases this
    have ht : fid (rf (bufOf n a (2 * q + c)) 0) = t := (Option.some.inj (nx_body f3 hh)).symm
    have hdr := (S.hx.dr a p c t hp c0 c1 hd).1
    have hwp : wantedN n a (2 * q + c) = p := by rw [f1, ← hdr, ← ht]; rfl
    cases hr : roomN n a p c
    · rfl
    · have hreq := request_2 (i := 2 * q + c) hwp (by rw [e1]; exact hr) hh
      rw [e1, e2, hq] at hreq
      rw [S.req hp.1 (by omega) (by omega) hp.2.1 hp.2.2.1] at hreq
      simp at hreq
theorem room_empty (ok : netOk n = true) {a p c : Int} (hp : opens n.mesh a p) (p4 : ¬ p = 4) (h : rl n.bufs (behindI n a p c) = []) : roomN n a p c = true := by
  rw [room_yes (by have := hp.2.2.1; omega) (hp.2.2.2.resolve_left p4), h]
  rfl
theorem Stk.owner (S : Stk n so si ss sa) : ∀ (k : Nat) (a p c : Int) (t : Int × Int × Int), opens n.mesh a p → 0 ≤ c → c ≤ 1 → dn n.mesh si sa a p c = some t → 17 ≤ k + (walk n.mesh (tabOf n.pa n.pb c) a t.2.1).length → 0 < (rl n.bufs (10 * a + 2 * ownAt n a p c + c)).length := by
 intro k
 induction k with
 | zero =>
  intro a p c t hp c0 c1 hd hk
  have := walk_le (ok_tab S.ok c) hp.1 (S.hx.dr a p c t hp c0 c1 hd).2
  omega
 | succ k ih =>
  intro a p c t hp c0 c1 hd hk
  obtain ⟨hdr, hdn⟩ := S.hx.dr a p c t hp c0 c1 hd
  rcases S.hw.own a p c hp c0 c1 with ⟨_, o2⟩ | ⟨s, o1, o2, o3⟩
  ·rw [o2] at hd; cases hd
  ·rw [hd] at o1
   obtain rfl := Option.some.inj o1
   have or := owner_range (i := 0) ⟨S.ok, hp.1, by omega, by omega⟩ hp.2.1 hp.2.2.1 c0 c1
   obtain ⟨q, hq⟩ : ∃ q, ownAt n a p c = q := ⟨_, rfl⟩
   rw [hq] at o2 o3 or ⊢
   rcases Nat.eq_zero_or_pos (rl n.bufs (10 * a + 2 * q + c)).length with h0 | h0
   ·exfalso
    have he : rl n.bufs (10 * a + 2 * q + c) = [] := List.eq_nil_of_length_eq_zero h0
    have a0 := isNode_iff.1 hp.1
    have b1 : 10 * a + 2 * q + c < (n.bufs.length : Int) := by
     have := bufs_lt S.ok hp.1 (b := 2 * q + c) (by omega) (by omega)
     omega
    have hb := S.hw.buf (10 * a + 2 * q + c) (by omega) b1
    rw [he, o3] at hb
    have hsi : si (10 * a + 2 * q + c) = some t := (Option.some.inj hb).symm
    by_cases q4 : q = 4
    ·subst q4
     have hl := S.hw.loc a c a0.1 c0 c1
     rw [show 10 * a + 8 + c = 10 * a + 2 * 4 + c by omega, hsi] at hl
     have hst : ss a = some t ∧ t.2.2 = c := by
      unfold lcl at hl
      split at hl
      ·rename_i t2 e2
       split at hl
       ·rename_i e3
        have := Option.some.inj hl
        subst this
        exact ⟨e2, e3⟩
       ·cases hl
      ·cases hl
     obtain ⟨_, _, _, _, hsl, _⟩ := netOk_parts S.ok
     have hsr := S.hw.src a a0.1 (by omega)
     rw [hst.1] at hsr
     cases e : rl n.srcs a with
     | nil => rw [e] at hsr; cases hsr
     | cons f r =>
      rw [e] at hsr
      obtain ⟨r1, _⟩ := run_cons hsr
      have hh : f.head = false := by
       cases hh : f.head
       ·rfl
       ·have := nx_head r1 hh; cases this
      have hf := Option.some.inj (nx_body r1 hh)
      have hc : f.cls = c := by rw [← hst.2, hf]; rfl
      have := S.enter a0.1 (by omega) (by rw [e]; simp)
      rw [e] at this
      have e5 : (rf (f :: r) 0) = f := rfl
      rw [e5, hc, show 10 * a + 8 + c = 10 * a + 2 * 4 + c by omega, he] at this
      simp at this
    ·have hbd := S.hx.bd a q c hp.1 (by omega) (by omega) c0 c1 (by rw [hsi]; simp)
     obtain ⟨hu, hl⟩ := hbd
     have hu' := isNode_iff.1 hu
     have hgeo := geo (g := n.mesh.g) (by omega) (by omega) hp.1 hu'.1
     obtain ⟨_, g2, g3, g4, g5, g6⟩ := hgeo
     obtain ⟨u, hue⟩ : ∃ u, nextNode n.mesh.g a q = u := ⟨_, rfl⟩
     rw [hue] at hu hu' hl g2 g4
     have hop : opens n.mesh u (opposite q) := ⟨hu, g5, by omega, .inr hl⟩
     have hdu : dn n.mesh si sa u (opposite q) c = some t := by
      unfold dn
      rw [if_neg (by omega), g2, g3]
      exact hsi
     obtain ⟨d1, d2⟩ := S.hx.dr u (opposite q) c t hop c0 c1 hdu
     have hne : u ≠ t.2.1 := fun e => by
      have := (hop_four (ok_tab S.ok c) hu d2).2 e
      omega
     have hlen := hop_len (ok_tab S.ok c) hu d2 hne
     rw [d1, g2] at hlen
     have h1 := ih u (opposite q) c t hop c0 c1 hdu (by omega)
     have h2 := S.body hop c0 c1 hdu h1
     have h3 := room_empty S.ok hop (by omega) (c := c) (by unfold behindI; rw [g2, g3]; exact he)
     rw [h2] at h3
     cases h3
   ·exact h0
theorem Stk.full (S : Stk n so si ss sa) {a p c : Int} {t : Int × Int × Int} (hp : opens n.mesh a p) (c0 : 0 ≤ c) (c1 : c ≤ 1) (hd : dn n.mesh si sa a p c = some t) : roomN n a p c = false :=
  S.body hp c0 c1 hd (S.owner 17 a p c t hp c0 c1 hd (by omega))
structure Waits (n : Net) (a i p : Int) : Prop where
  p0 : 0 ≤ p
  p3 : p ≤ 3
  want : wantedN n a i = p
  ent : entry n.mesh (tabOf n.pa n.pb (i % 2)) a (rf (bufOf n a i) 0).dst = p
  lv : live n.mesh (4 * a + p) = true
  room : roomN n a p (i % 2) = false
  full : 3 ≤ (rl n.bufs (behindI n a p (i % 2))).length
theorem Stk.waits (S : Stk n so si ss sa) {a i : Int} (h : At n a i) (h0 : 0 < (bufOf n a i).length) : Waits n a i (wantedN n a i) := by
  have i0 := h.i0; have i9 := h.i9
  obtain ⟨f1, f2, f3⟩ := front S.hw S.hx h h0
  have hdst := (h.buf0 h0).1
  have ht := ok_tab S.ok (i % 2)
  obtain ⟨p, hwp⟩ : ∃ p, wantedN n a i = p := ⟨_, rfl⟩
  rw [hwp] at f1 f2 ⊢
  have hr : p ≤ 4 ∧ 0 ≤ p ∧ (p = 4 ∨ live n.mesh (4 * a + p) = true) := by
    by_cases e : a = (rf (bufOf n a i) 0).dst
    · have := (hop_four ht h.nd hdst).2 e
      rw [← f1] at this
      omega
    · have := hop ht h.nd hdst e
      rw [f1]
      exact ⟨by have := this.p3; omega, this.p0, .inr this.lv⟩
  have hop : opens n.mesh a p := ⟨h.nd, hr.2.1, hr.1, hr.2.2⟩
  have hroom : roomN n a p (i % 2) = false := by
    cases hh : (rf (bufOf n a i) 0).head
    · have ho := f2 hh
      rcases S.hw.own a p (i % 2) hop (by omega) (by omega) with ⟨o1, _⟩ | ⟨s, o1, o2, o3⟩
      · omega
      · exact S.full hop (by omega) (by omega) o1
    · cases hr2 : roomN n a p (i % 2)
      · rfl
      · have hreq := request_1 (i := i) hwp hr2 hh
        rw [S.req h.nd i0 i9 hr.2.1 hr.1] at hreq
        rcases S.hw.own a p (i % 2) hop (by omega) (by omega) with ⟨o1, _⟩ | ⟨s, o1, o2, o3⟩
        · rw [o1] at hreq; cases hreq
        · rw [S.full hop (by omega) (by omega) o1] at hr2
          cases hr2
  have p4 : ¬ p = 4 := fun e => by rw [e] at hroom; cases hroom
  have hl := hr.2.2.resolve_left p4
  refine ⟨hr.2.1, by omega, hwp, f1.symm, hl, hroom, ?_⟩
  rw [room_yes (by omega) hl, decide_eq_false_iff_not] at hroom
  omega
end
end NoC
namespace Go.Proofs.YtaihmgbflhbebaaGreat
open NoC
theorem tot_some {l : List (List Flit)} : ∀ k, totTo l k ≠ 0 → ∃ i : Nat, i < k ∧ 0 < (rl l (i : Int)).length := by
  intro k
  induction k with
  | zero => intro h; exact absurd rfl h
  | succ k ih =>
    intro h
    rw [totTo] at h
    by_cases e : totTo l k = 0
    · exact ⟨k, by omega, by omega⟩
    · obtain ⟨i, hi, h1⟩ := ih e
      exact ⟨i, by omega, h1⟩
theorem Stk.some {n : Net} {so si : Int → FS} {ss : Int → FS} {sa : Int → Int → FS} (S : Stk n so si ss sa) (h : idleN n = false) : ∃ a i, At n a i ∧ 0 < (bufOf n a i).length := by
  have hb : (∃ i : Nat, i < n.bufs.length ∧ 0 < (rl n.bufs (i : Int)).length) → ∃ a i, At n a i ∧ 0 < (bufOf n a i).length := by
    rintro ⟨i, hi, h1⟩
    obtain ⟨_, e1, _⟩ := netOk_parts S.ok
    refine ⟨(i : Int) / 10, (i : Int) % 10, ⟨S.ok, isNode_iff.2 ⟨by omega, by omega⟩, by omega, by omega⟩, ?_⟩
    unfold bufOf
    rw [show 10 * ((i : Int) / 10) + (i : Int) % 10 = i by omega]
    exact h1
  apply hb
  unfold idleN at h
  by_cases e : totTo n.bufs n.bufs.length = 0
  · have e2 : totTo n.srcs n.srcs.length ≠ 0 := fun e2 => by rw [decide_eq_true e, decide_eq_true e2] at h; cases h
    obtain ⟨k, hk, h1⟩ := tot_some _ e2
    have h3 := S.enter (a := k) (by omega) (by omega) h1
    obtain ⟨_, _, _, hcl⟩ := src_buf S.ok k hk
    obtain ⟨d0, d1, d2⟩ := hcl h1
    refine ⟨(10 * (k : Int) + 8 + (rf (rl n.srcs (k : Int)) 0).cls).toNat, by omega, ?_⟩
    rw [Int.toNat_of_nonneg (by omega)]
    omega
  · exact tot_some _ e
def val (n : Net) (ρ : Int → Int → Int → Nat) (a i : Int) : Nat := if i / 2 = 4 then 0 else ρ (i % 2) (nextNode n.mesh.g a (i / 2)) (opposite (i / 2)) + 1
end Go.Proofs.YtaihmgbflhbebaaGreat
namespace Go.Proofs.YtaihmgbflhbebaaGreat
open Go.RowKit Go.Proofs.YtaihmgbflhbebaaGreatW.PrintWords
open NoC
def wCells (x : Wait) : List Value := [.int .i64 x.a, .int .i64 x.b]
def kW : Kd Wait := Kd.flat 2 wCells (fun _ => rfl) (fun x u hu => by
  simp only [wCells, List.mem_cons, List.not_mem_nil, or_false] at hu
  rcases hu with rfl | rfl <;> rfl)
def zw : Wait := ⟨0, 0⟩
def rw_ (l : List Wait) (i : Int) : Wait := l.getD i.toNat zw
theorem rdW_at {w : World} {A : Option Addr} {l : List Wait} (h : kW.C w A l.length l) (k : Nat) (hk : k < l.length) :
    ∃ b off, A = some ⟨b, off, none⟩ ∧ b < w.heap.size ∧ w.cell? ⟨b, off + k * 2, none⟩ = some (.int .i64 (rw_ l k).a) ∧ w.cell? ⟨b, off + k * 2 + 1, none⟩ = some (.int .i64 (rw_ l k).b) := by
  obtain ⟨b, off, rfl, hb, hx⟩ := rdF_at (n := 2) zw (by omega) h k hk
  exact ⟨b, off, rfl, hb, hx k hk 0 _ rfl, hx k hk 1 _ rfl⟩
theorem info_W : (Tryz.prog.info? 59).map (fun i => (i.zero, i.size, i.bytes)) = some (some (.agg #[.int .i64 0, .int .i64 0]), 2, 16) := by kernel_rfl
def GotW (w w' : World) (xs : List Wait) (e : Ending) : Prop := ∃ v, e = .returned v ∧ kW.R 59 w' w.heap.size (fun _ => True) v xs
section
variable {ops : Array Oper} {rest : List Oper} {o : Oper} {a : Act} {Q : Exit → Act → World → Prop}
end
def widx (l : List Wait) (x : Int) : Int := if l.any (fun q => q.a == x) then ((l.findIdx (fun q => q.a == x) : Nat) : Int) else -1
theorem rw_get (l : List Wait) (k : Nat) (h : k < l.length) : rw_ l (k : Int) = l[k] := by
  simp [rw_, List.getD_eq_getElem?_getD, h]
theorem widx_yes {l : List Wait} {x : Int} (j : Nat) (hj : j < l.length) (h : (rw_ l j).a = x) (hb : ∀ q : Nat, q < j → ¬ (rw_ l q).a = x) : widx l x = j := by
  have hany : l.any (fun q => q.a == x) = true := by
    rw [List.any_eq_true]
    rw [rw_get l j hj] at h
    exact ⟨_, List.getElem_mem hj, by simpa using h⟩
  unfold widx
  rw [if_pos hany]
  have : l.findIdx (fun q => q.a == x) = j := by
    rw [List.findIdx_eq hj]
    rw [rw_get l j hj] at h
    refine ⟨by simpa using h, fun i hi => ?_⟩
    have := hb i hi
    rw [rw_get l i (by omega)] at this
    simpa using this
  rw [this]
theorem widx_no {l : List Wait} {x : Int} (h : ∀ q : Nat, q < l.length → ¬ (rw_ l q).a = x) : widx l x = -1 := by
  have hany : ¬ l.any (fun q => q.a == x) = true := by
    rw [List.any_eq_true]
    rintro ⟨q, hq, e⟩
    obtain ⟨j, hj, rfl⟩ := List.getElem_of_mem hq
    exact h j hj (by rw [rw_get l j hj]; simpa using e)
  unfold widx
  rw [if_neg hany]
theorem widx_range (l : List Wait) (x : Int) : widx l x = -1 ∨ ∃ j : Nat, j < l.length ∧ widx l x = j := by
  by_cases h : l.any (fun q => q.a == x) = true
  · right
    refine ⟨l.findIdx (fun q => q.a == x), ?_, by unfold widx; rw [if_pos h]⟩
    rw [List.findIdx_lt_length]
    rw [List.any_eq_true] at h
    exact h
  · left
    unfold widx
    rw [if_neg h]
def cyc (l : List Wait) (s : Int) : Nat → Int → List Int → List Int
  | 0, _, _ => []
  | k + 1, at_, out =>
    if widx l at_ = -1 then []
    else if (rw_ l (widx l at_)).b = s then out
    else if (rw_ l (widx l at_)).b = -1 then []
    else cyc l s k (rw_ l (widx l at_)).b (out ++ [(rw_ l (widx l at_)).b])
def cycAt (l : List Wait) (j : Nat) : List Int := cyc l (rw_ l j).a l.length (rw_ l j).a [(rw_ l j).a]
def wcL (l : List Wait) : List Int := (((List.range l.length).map (cycAt l)).find? (fun r => decide (0 < r.length))).getD []
theorem wcL_yes {l : List Wait} (j : Nat) (hj : j < l.length) (h : 0 < (cycAt l j).length) (hb : ∀ q, q < j → cycAt l q = []) : wcL l = cycAt l j := by
  unfold wcL
  have : ((List.range l.length).map (cycAt l)).find? (fun r => decide (0 < r.length)) = some (cycAt l j) := by
    rw [List.find?_eq_some_iff_getElem]
    refine ⟨by simpa using h, j, by simpa using hj, by simp, fun q hq => ?_⟩
    simp [hb q hq]
  rw [this]
  rfl
theorem wcL_no {l : List Wait} (hb : ∀ q, q < l.length → cycAt l q = []) : wcL l = [] := by
  unfold wcL
  have : ((List.range l.length).map (cycAt l)).find? (fun r => decide (0 < r.length)) = none := by
    rw [List.find?_eq_none]
    intro r hr
    simp only [List.mem_map, List.mem_range] at hr
    obtain ⟨q, hq, rfl⟩ := hr
    simp [hb q hq]
  rw [this]
  rfl
theorem impl_cycleOf_1 (q : Wait) (x : Int) (gm : Nat) (w : World) (h0 : w.cell? ⟨gm, 0, none⟩ = some (.int .i64 x)) :
    Calls Tryz.prog 93 #[.agg #[.int .i64 q.a, .int .i64 q.b], .pointer (some ⟨gm, 0, none⟩)] w fun e w' => e = .returned (.bool (q.a == x)) ∧ Below w.heap.size w w' := by
  have g0 := World.block_lt_of_cell? w _ h0
  go_enter Tryz.func93, Tryz.ntmps93
  go_wp2
  go_ret
  exact ⟨ret_bool (by first | rfl | (simp; done) | (by_cases h : q.a = x <;> simp [h])), bel⟩
set_option maxHeartbeats 1000000 in
theorem slices_IndexFunc_W (l : List Wait) (x : Int) (D : Option Addr) (n gm : Nat) (w : World) (hp : kW.C w D l.length l) (hkl : l.length ≤ 2097152) (h0 : w.cell? ⟨gm, 0, none⟩ = some (.int .i64 x)) :
    Calls Tryz.prog 92 #[.slice D l.length n, .func (.func 93) #[] #[.pointer (some ⟨gm, 0, none⟩)]] w fun e w' => e = .returned (.int .i64 (widx l x)) ∧ Below w.heap.size w w' := by
  have g0 := World.block_lt_of_cell? w _ h0
  have hcall : ∀ (q : Wait) (w' : World), Below w.heap.size w w' → Calls Tryz.prog 93 #[.agg #[.int .i64 q.a, .int .i64 q.b], .pointer (some ⟨gm, 0, none⟩)] w' fun e w'' => e = .returned (.bool (q.a == x)) ∧ Below w'.heap.size w' w'' := by
    intro q w' hb
    obtain ⟨hc, _, _⟩ := bcell hb
    exact impl_cycleOf_1 q x gm w' ((hc _ _ g0).trans h0)
  have HCALL := Lib.hid hcall
  clear hcall h0 g0
  go_enter Tryz.func92, Tryz.ntmps92
  go_wp2
  go_loopw [8] (fun i wr => ∃ j : Nat, i = .int .i64 j ∧ j ≤ l.length ∧ Hid (∀ q : Nat, q < j → ¬ (rw_ l q).a = x) ∧ Below w.heap.size w wr) (fun i _ => l.length - (intOf i).toNat)
  case atStart => exact ⟨0, rfl, Nat.zero_le _, Lib.hid fun x h => absurd h (Nat.not_lt_zero _), bel⟩
  case round =>
    obtain ⟨j, rfl, hj, HA, HB⟩ := hrel
    obtain ⟨hc0, hf0, hz0⟩ := bcell HB
    by_cases hlt : j < l.length
    · obtain ⟨b, off, rfl, hbl, p0, p1⟩ := rdW_at hp j hlt
      by_cases e : (rw_ l j).a = x
      · have E := Lib.hid e
        have E1 := Lib.hid (show ((rw_ l j).a == x) = true from beq_iff_eq.2 e)
        clear e
        go_wp2_with (go_at_call 93; refine (HCALL.out (rw_ l j) _ (by exact bel)).mono ?_; rintro e w1 ⟨he, hb1⟩; rw [E1.out] at he; subst he; obtain ⟨hc1, hf1, hz1⟩ := bcell hb1; (try simp only [szs] at hz1); have hb2 := far2; obtain ⟨hc2, hf2, hz2⟩ := bcell hb2; (try simp only [szs] at hz2); try (first | obtain ⟨hy1, hy2, hy3, hy4⟩ := lts4 hz2 | obtain ⟨hy1, hy2, hy3⟩ := lts3 hz2 | obtain ⟨hy1, hy2⟩ := lts2 hz2 | have hy1 := lts1 hz2); have hb9 := hb1)
        go_ret
        exact ⟨ret_int (widx_yes j hlt E.out HA.out).symm, bel⟩
      · have E := Lib.hid e
        have E1 := Lib.hid (show ((rw_ l j).a == x) = false from beq_eq_false_iff_ne.2 e)
        clear e
        go_wp2_with (go_at_call 93; refine (HCALL.out (rw_ l j) _ (by exact bel)).mono ?_; rintro e w1 ⟨he, hb1⟩; rw [E1.out] at he; subst he; obtain ⟨hc1, hf1, hz1⟩ := bcell hb1; (try simp only [szs] at hz1); have hb2 := far2; obtain ⟨hc2, hf2, hz2⟩ := bcell hb2; (try simp only [szs] at hz2); try (first | obtain ⟨hy1, hy2, hy3, hy4⟩ := lts4 hz2 | obtain ⟨hy1, hy2, hy3⟩ := lts3 hz2 | obtain ⟨hy1, hy2⟩ := lts2 hz2 | have hy1 := lts1 hz2); have hb9 := hb1)
        go_roundw
        case rel => exact ⟨j + 1, by go_num, by omega, Lib.hid (upto HA.out E.out), bel⟩
        case measure => simp [intOf]; omega
    · go_wp2
      go_ret
      exact ⟨ret_int (widx_no (fun x hx => HA.out x (by omega))).symm, bel⟩
theorem R_one {e : Nat} {W0 W : World} (x : Int) (hb : W0.heap.size ≤ W.heap.size) : Kd.R (Kd.int .i64) e (W.alloc (.cells #[.int .i64 x] e)) W0.heap.size (fun _ => True) (.slice (some ⟨W.heap.size, 0, none⟩) 1 1) [x] := by
  have h2 := World.ownsRow_lit (base := W0.heap.size) (e := e) (size := 1) W #[.int .i64 x] 1 hb (by decide) (by simp)
  exact Kd.R_of_own (enc := Value.int .i64) (xs := [x]) (by simpa [encs] using h2) (fun _ _ => trivial)
section
variable {P : Program} {ops : Array Oper} {rest : List Oper} {o : Oper} {a : Act} {Q : Exit → Act → World → Prop}
theorem app_intH {W0 W : World} (hgd : o.guard = none) (s x : Operand) (t e : TypeId)
    (ho : o.op = .call { callee := .builtin .append, args := #[s, x], argTypes := #[t, t] })
    (ht : P.underlying t = some (.slice e)) (hinfo : (P.info? e).map (fun i => (i.zero, i.size, i.bytes)) = some (some (.int .i64 0), 1, 8))
    (v : Value) (xs : List Int) (y : Int) (hs : a.eval s = v) (hx : a.eval x = .slice (some ⟨W.heap.size, 0, none⟩) 1 1)
    (HO : Kd.R (Kd.int .i64) e W W0.heap.size (fun _ => True) v xs) (HB : Below W0.heap.size W0 W) (hl : xs.length ≤ 1000000000)
    (h : ∀ v1 w1, Kd.R (Kd.int .i64) e w1 W0.heap.size (fun _ => True) v1 (xs ++ [y]) → Below W0.heap.size W0 w1 → W.grownBy w1 v.ownBlock → (v1.ownBlock = v.ownBlock ∨ ∃ b, v1.ownBlock = some b ∧ W.heap.size ≤ b) → wpList P ops Q rest (a.put o.dst v1) w1) :
    wpList P ops Q (o :: rest) a (W.alloc (.cells #[.int .i64 y] e)) :=
  Kd.R_append (Kd.int .i64) W0.heap.size hgd s x t e (.int .i64 0) 8 ho ht hinfo rfl (by decide) (by omega) v xs y [.int .i64 y] (fun _ => True) (fun _ => False) hs hx rfl (fun _ hk => hk.elim) (fun _ _ => trivial) HO HB HB.size (by omega) h
end
set_option maxHeartbeats 4000000 in
theorem impl_cycleOf (l : List Wait) (s : Int) (D : Option Addr) (n : Nat) (w : World) (hp : kW.C w D l.length l) (hkl : l.length ≤ 2097152) :
  Calls Tryz.prog 62 #[.slice D l.length n, .int .i64 s] w fun e w' => ((e = .returned (.slice none 0 0) ∧ cyc l s l.length s [s] = []) ∨ (GotI w w' (cyc l s l.length s [s]) e ∧ 0 < (cyc l s l.length s [s]).length)) ∧ Below w.heap.size w w' := by
 go_enter Tryz.func62, Tryz.ntmps62
 go_wp2
 go_loopw [5, 13] (fun v i wr => ∃ (j : Nat) (at_ : Int) (out : List Int), i = .int .i64 j ∧ j ≤ l.length ∧ (1 ≤ out.length ∧ out.length ≤ j + 1) ∧ Hid (cyc l s l.length s [s] = cyc l s (l.length - j) at_ out) ∧ Kd.R (Kd.int .i64) 3 wr w.heap.size (fun _ => True) v out ∧ Boxed wr (w.heap.size + 1) 3 (.int .i64 at_) ∧ v.ownBlock ≠ some (w.heap.size + 1) ∧ w.heap.size + 1 < wr.heap.size ∧ Below w.heap.size w wr) (fun _ i _ => l.length - (intOf i).toNat)
 case atStart =>
  have hbx : Boxed ((w.alloc (.cells #[.int .i64 s] 3)).alloc (.cells #[.int .i64 s] 3)) (w.heap.size + 1) 3 (.int .i64 s) := by
   have h := Boxed.new (w.alloc (.cells #[.int .i64 s] 3)) 3 (.int .i64 s)
   rwa [World.size_alloc] at h
  exact ⟨0, s, [s], rfl, Nat.zero_le _, ⟨Nat.le_refl _, by simp⟩, Lib.hid (by rw [Nat.sub_zero]), Kd.R_below (R_one (W0 := w) s (Nat.le_refl _)) (bw_alloc _ (bw_refl _)), hbx, by simp [Value.ownBlock], by simp only [szs]; omega, bel⟩
 case round =>
  obtain ⟨j, at_, out, rfl, hj, ⟨ho1, ho2⟩, HC, HO, HV, hne, hsz, HB⟩ := hrel
  obtain ⟨Ao, co, rfl⟩ := Kd.R_slice HO
  obtain ⟨hc0, hf0, hz0⟩ := bcell HB
  have hv0 := HV.cell
  have hv1 := HV.frozen
  by_cases hlt : j < l.length
  ·obtain ⟨k, hk⟩ : ∃ k, l.length - j = k + 1 := ⟨l.length - j - 1, by omega⟩
   have HK := Lib.hid hk
   have hkk : l.length - (j + 1) = k := by omega
   have HKK := Lib.hid hkk
   clear hk hkk
   obtain ⟨ix, hix⟩ : ∃ x, widx l at_ = x := ⟨_, rfl⟩
   have hr := widx_range l at_
   rw [hix] at hr
   have HIX := Lib.hid hix
   clear hix
   have ARMC : True := trivial
   rcases hr with rfl | ⟨q, hq, rfl⟩
   ·go_wp2_with (go_at_call 92; refine (slices_IndexFunc_W l at_ D _ _ _ (by exact Kd.C_below hp bel) hkl hv0).mono ?_; rintro e w1 ⟨he, hb1⟩; rw [HIX.out] at he; subst he; obtain ⟨hc1, hf1, hz1⟩ := bcell hb1; (try simp only [szs] at hz1); have hb2 := far2; obtain ⟨hc2, hf2, hz2⟩ := bcell hb2; (try simp only [szs] at hz2); try (first | obtain ⟨hy1, hy2, hy3, hy4⟩ := lts4 hz2 | obtain ⟨hy1, hy2, hy3⟩ := lts3 hz2 | obtain ⟨hy1, hy2⟩ := lts2 hz2 | have hy1 := lts1 hz2); have hb9 := hb1)
    go_ret
    exact ⟨.inl ⟨rfl, by rw [HC.out, HK.out, cyc, if_pos HIX.out]⟩, bel⟩
   ·obtain ⟨b, off, rfl, hbl, p0, p1⟩ := rdW_at hp q hq
    have i0 : ¬ (q : Int) < 0 := by omega
    obtain ⟨nx, hnx⟩ : ∃ x, (rw_ l q).b = x := ⟨_, rfl⟩
    rw [hnx] at p1
    have HNX := Lib.hid hnx
    clear hnx
    have hq1 : ¬ ((q : Int) = -1) := by omega
    have HQ1 := Lib.hid hq1
    clear hq1
    by_cases e1 : nx = s
    ·have f1 : (nx == s) = true := beq_iff_eq.2 e1
     have hcy : cyc l s (k + 1) at_ out = out := by rw [cyc, HIX.out, if_neg HQ1.out, HNX.out, if_pos e1]
     have HCY := Lib.hid hcy
     clear hcy e1
     go_wp2_with (go_at_call 92; refine (slices_IndexFunc_W l at_ _ _ _ _ (by exact Kd.C_below hp bel) hkl hv0).mono ?_; rintro e w1 ⟨he, hb1⟩; rw [HIX.out] at he; subst he; have HV1 := HV.kept (grown_below none hb1) (by simp); have hw0 := HV1.cell; have hw1 := HV1.frozen; have HO1 := Kd.R_below HO hb1; obtain ⟨hc1, hf1, hz1⟩ := bcell hb1; (try simp only [szs] at hz1); have hb2 := far2; obtain ⟨hc2, hf2, hz2⟩ := bcell hb2; (try simp only [szs] at hz2); try (first | obtain ⟨hy1, hy2, hy3, hy4⟩ := lts4 hz2 | obtain ⟨hy1, hy2, hy3⟩ := lts3 hz2 | obtain ⟨hy1, hy2⟩ := lts2 hz2 | have hy1 := lts1 hz2); have hb9 := hb1)
     go_ret
     refine ⟨.inr ⟨⟨_, rfl, ?_⟩, by rw [HC.out, HK.out, HCY.out]; exact ho1⟩, ?_⟩
     ·rw [HC.out, HK.out, HCY.out]
      exact R_grownI HO1 (grownBy_setCell' _ _ _) (.inr hne)
     ·exact bw_set _ (by exact bel) (by omega)
    ·have f1 : (nx == s) = false := beq_eq_false_iff_ne.2 e1
     by_cases e2 : nx = -1
     ·have f2 : (nx == -1) = true := beq_iff_eq.2 e2
      have hcy : cyc l s (k + 1) at_ out = [] := by rw [cyc, HIX.out, if_neg HQ1.out, HNX.out, if_neg e1, if_pos e2]
      have HCY := Lib.hid hcy
      clear hcy e1 e2
      go_wp2_with (go_at_call 92; refine (slices_IndexFunc_W l at_ _ _ _ _ (by exact Kd.C_below hp bel) hkl hv0).mono ?_; rintro e w1 ⟨he, hb1⟩; rw [HIX.out] at he; subst he; have HV1 := HV.kept (grown_below none hb1) (by simp); have hw0 := HV1.cell; have hw1 := HV1.frozen; have HO1 := Kd.R_below HO hb1; obtain ⟨hc1, hf1, hz1⟩ := bcell hb1; (try simp only [szs] at hz1); have hb2 := far2; obtain ⟨hc2, hf2, hz2⟩ := bcell hb2; (try simp only [szs] at hz2); try (first | obtain ⟨hy1, hy2, hy3, hy4⟩ := lts4 hz2 | obtain ⟨hy1, hy2, hy3⟩ := lts3 hz2 | obtain ⟨hy1, hy2⟩ := lts2 hz2 | have hy1 := lts1 hz2); have hb9 := hb1)
      go_ret
      exact ⟨.inl ⟨rfl, by rw [HC.out, HK.out, HCY.out]⟩, bw_set _ (by exact bel) (by omega)⟩
     ·have f2 : (nx == -1) = false := beq_eq_false_iff_ne.2 e2
      have hcy : cyc l s (k + 1) at_ out = cyc l s k nx (out ++ [nx]) := by rw [cyc, HIX.out, if_neg HQ1.out, HNX.out, if_neg e1, if_neg e2]
      have HCY := Lib.hid hcy
      clear hcy e1 e2
      go_wp2_with (first | (go_at_call 92; refine (slices_IndexFunc_W l at_ _ _ _ _ (by exact Kd.C_below hp bel) hkl hv0).mono ?_; rintro e w1 ⟨he, hb1⟩; rw [HIX.out] at he; subst he; have HV1 := HV.kept (grown_below none hb1) (by simp); have hw0 := HV1.cell; have hw1 := HV1.frozen; have HO1 := Kd.R_below HO hb1; obtain ⟨hc1, hf1, hz1⟩ := bcell hb1; (try simp only [szs] at hz1); have hb2 := far2; obtain ⟨hc2, hf2, hz2⟩ := bcell hb2; (try simp only [szs] at hz2); try (first | obtain ⟨hy1, hy2, hy3, hy4⟩ := lts4 hz2 | obtain ⟨hy1, hy2, hy3⟩ := lts3 hz2 | obtain ⟨hy1, hy2⟩ := lts2 hz2 | have hy1 := lts1 hz2); have hb9 := hb1) | (at_builtin; refine app_intH (W0 := w) rfl (.tmp 32) (.tmp 34) 26 3 rfl Tryz.underlying26 info_int _ out _ rfl (by first | rfl | exact congrArg (fun z => Value.slice (some ⟨z, 0, none⟩) 1 1) (by simp only [szs])) (R_grownI HO1 (grownBy_setCell' _ _ _) (.inr hne)) (bw_set _ (by exact bel) (by omega)) (by omega) ?_; intro v1 w2 HO2 HB2 hg2 hat2; have HV2 := (HV1.set (.int .i64 nx)).kept hg2 (Ne.symm hne); have hs1 := hb1.size; have hs2 := hg2.size; simp only [szs] at hs2; simp only [szs] at hat2))
      go_roundw
      case rel =>
       refine ⟨j + 1, nx, out ++ [nx], by go_num, by omega, ⟨by simp, by simp; omega⟩, Lib.hid (by rw [HC.out, HK.out, HCY.out, HKK.out]), HO2, HV2, ?_, by omega, HB2⟩
       rcases hat2 with hat2 | ⟨g, hg, hle⟩
       ·rw [hat2]; exact hne
       ·rw [hg]; intro e; injection e with e; omega
      case measure => simp [intOf]; omega
  ·go_wp2
   go_ret
   exact ⟨.inl ⟨rfl, by rw [HC.out, show l.length - j = 0 by omega, cyc]⟩, bel⟩
theorem impl_cycleOf_nil (l : List Wait) (s : Int) (D : Option Addr) (n : Nat) (w : World) (hp : kW.C w D l.length l) (hkl : l.length ≤ 2097152) (h : cyc l s l.length s [s] = []) :
    Calls Tryz.prog 62 #[.slice D l.length n, .int .i64 s] w fun e w' => e = .returned (.slice none 0 0) ∧ Below w.heap.size w w' := by
  refine (impl_cycleOf l s D n w hp hkl).mono ?_
  rintro e w1 ⟨hd, hb⟩
  refine ⟨?_, hb⟩
  rcases hd with ⟨h1, _⟩ | ⟨_, h2⟩
  · exact h1
  · rw [h] at h2; simp at h2
theorem impl_cycleOf_some (l : List Wait) (s : Int) (D : Option Addr) (n : Nat) (w : World) (hp : kW.C w D l.length l) (hkl : l.length ≤ 2097152) (h : 0 < (cyc l s l.length s [s]).length) :
    Calls Tryz.prog 62 #[.slice D l.length n, .int .i64 s] w fun e w' => GotI w w' (cyc l s l.length s [s]) e ∧ Below w.heap.size w w' := by
  refine (impl_cycleOf l s D n w hp hkl).mono ?_
  rintro e w1 ⟨hd, hb⟩
  refine ⟨?_, hb⟩
  rcases hd with ⟨_, h1⟩ | ⟨h2, _⟩
  · rw [h1] at h; simp at h
  · exact h2
set_option maxHeartbeats 2000000 in
theorem impl_WaitCycle (l : List Wait) (D : Option Addr) (n : Nat) (w : World) (hp : kW.C w D l.length l) (hkl : l.length ≤ 2097152) :
    Calls Tryz.prog 32 #[.slice D l.length n] w fun e w' => GotI w w' (wcL l) e ∧ Below w.heap.size w w' := by
  have q1 : ∀ w : World, (binOp .neq 26 (.slice none 0 0) (.slice none 0 0)).run Tryz.prog w = .ok (.bool false) w := fun w => by rw [Go.run_neq_slice_nil _ _ _ _ _ _ Tryz.underlying26]; rfl
  have q2 : ∀ (a : Addr) (l c : Nat) (w : World), (binOp .neq 26 (.slice (some a) l c) (.slice none 0 0)).run Tryz.prog w = .ok (.bool true) w := fun a l c w => by rw [Go.run_neq_slice_nil _ _ _ _ _ _ Tryz.underlying26]; rfl
  go_enter Tryz.func32, Tryz.ntmps32
  go_wp2
  go_loopw [8] (fun i wr => ∃ j : Nat, i = .int .i64 j ∧ j ≤ l.length ∧ Hid (∀ q, q < j → cycAt l q = []) ∧ Below w.heap.size w wr) (fun i _ => l.length - (intOf i).toNat)
  case atStart => exact ⟨0, rfl, Nat.zero_le _, Lib.hid fun q h => absurd h (Nat.not_lt_zero _), bel⟩
  case round =>
    obtain ⟨j, rfl, hj, HA, HB⟩ := hrel
    obtain ⟨hc0, hf0, hz0⟩ := bcell HB
    by_cases hlt : j < l.length
    · obtain ⟨b, off, rfl, hbl, p0, p1⟩ := rdW_at hp j hlt
      by_cases hz : (cycAt l j).length = 0
      · have hn := List.eq_nil_of_length_eq_zero hz
        have HN := Lib.hid hn
        clear hn hz
        go_wp2_with (go_at_call 62; refine (impl_cycleOf_nil l (rw_ l j).a _ _ _ (by exact Kd.C_below hp bel) hkl HN.out).mono ?_; rintro e w1 ⟨rfl, hb1⟩; obtain ⟨hc1, hf1, hz1⟩ := bcell hb1; (try simp only [szs] at hz1); have hb2 := far2; obtain ⟨hc2, hf2, hz2⟩ := bcell hb2; (try simp only [szs] at hz2); try (first | obtain ⟨hy1, hy2, hy3, hy4⟩ := lts4 hz2 | obtain ⟨hy1, hy2, hy3⟩ := lts3 hz2 | obtain ⟨hy1, hy2⟩ := lts2 hz2 | have hy1 := lts1 hz2); have hb9 := hb1)
        go_roundw
        case rel => exact ⟨j + 1, by go_num, by omega, Lib.hid (upto HA.out HN.out), bel⟩
        case measure => simp [intOf]; omega
      · have hpos : 0 < (cycAt l j).length := by omega
        have HP := Lib.hid hpos
        have HW := Lib.hid (wcL_yes j hlt hpos HA.out)
        clear hz hpos
        go_wp2_with (go_at_call 62; refine (impl_cycleOf_some l (rw_ l j).a _ _ _ (by exact Kd.C_below hp bel) hkl HP.out).mono ?_; rintro e w1 ⟨hg1, hb1⟩; obtain ⟨v1, rfl, HO1⟩ := hg1; obtain ⟨g, cap, hv, hgb, hgl, cells, HG⟩ := Kd.R_form HO1 HP.out; subst hv; obtain ⟨hc1, hf1, hz1⟩ := bcell hb1; (try simp only [szs] at hz1); have hb2 := far2; obtain ⟨hc2, hf2, hz2⟩ := bcell hb2; (try simp only [szs] at hz2); try (first | obtain ⟨hy1, hy2, hy3, hy4⟩ := lts4 hz2 | obtain ⟨hy1, hy2, hy3⟩ := lts3 hz2 | obtain ⟨hy1, hy2⟩ := lts2 hz2 | have hy1 := lts1 hz2); have hb9 := hb1)
        go_ret
        exact ⟨by rw [HW.out]; exact ⟨_, rfl, Kd.R_lower HO1 (bw_size bel)⟩, bel⟩
    · go_wp2
      go_ret
      exact ⟨by rw [wcL_no (fun q hq => HA.out q (by omega))]; exact GotI.nil _ _, bel⟩
end Go.Proofs.YtaihmgbflhbebaaGreat
namespace Go.Proofs.YtaihmgbflhbebaaGreat
open NoC
theorem php : ∀ (n : Nat) (g : Nat → Nat), (∀ i, i ≤ n → g i < n) → ∃ i j, i < j ∧ j ≤ n ∧ g i = g j := by
  intro n
  induction n with
  | zero => intro g h; exact absurd (h 0 (Nat.le_refl _)) (Nat.not_lt_zero _)
  | succ n ih =>
    intro g h
    by_cases hx : ∃ i, i ≤ n ∧ g i = g (n + 1)
    · obtain ⟨i, hi, e⟩ := hx
      exact ⟨i, n + 1, by omega, Nat.le_refl _, e⟩
    · have hne : ∀ i, i ≤ n → g i ≠ g (n + 1) := fun i hi e => hx ⟨i, hi, e⟩
      have hl := h (n + 1) (Nat.le_refl _)
      obtain ⟨i, j, h1, h2, h3⟩ := ih (fun i => if g i = n then g (n + 1) else g i) (fun i hi => by
        have h1 := h i (by omega)
        have h2 := hne i hi
        try dsimp only
        split
        · omega
        · omega)
      refine ⟨i, j, h1, by omega, ?_⟩
      have e1 := hne i (by omega)
      have e2 := hne j h2
      try dsimp only at h3
      split at h3 <;> split at h3 <;> omega
structure Wl (l : List Wait) : Prop where
  pos : 0 < l.length
  dist : ∀ i j : Nat, i < l.length → j < l.length → (rw_ l i).a = (rw_ l j).a → i = j
  next : ∀ i : Nat, i < l.length → ∃ j : Nat, j < l.length ∧ (rw_ l j).a = (rw_ l i).b
  ok : ∀ i : Nat, i < l.length → (rw_ l i).b ≠ -1 ∧ (rw_ l i).b ≠ (rw_ l i).a
section
variable {l : List Wait}
theorem Wl.idx (h : Wl l) {j : Nat} (hj : j < l.length) : widx l (rw_ l j).a = j :=
  widx_yes j hj rfl (fun q hq e => by have := h.dist q j (by omega) hj e; omega)
def nxI (l : List Wait) (i : Nat) : Nat := (widx l (rw_ l i).b).toNat
theorem Wl.nx (h : Wl l) {i : Nat} (hi : i < l.length) : nxI l i < l.length ∧ (rw_ l (nxI l i : Nat)).a = (rw_ l i).b := by
  obtain ⟨j, hj, e⟩ := h.next i hi
  have := h.idx hj
  rw [e] at this
  unfold nxI
  rw [this, Int.toNat_natCast]
  exact ⟨hj, e⟩
def itI (l : List Wait) : Nat → Nat → Nat
  | 0, i => i
  | k + 1, i => itI l k (nxI l i)
theorem Wl.it (h : Wl l) : ∀ (k : Nat) {i : Nat}, i < l.length → itI l k i < l.length := by
  intro k
  induction k with
  | zero => intro i hi; exact hi
  | succ k ih => intro i hi; exact ih (h.nx hi).1
theorem it_add (l : List Wait) : ∀ (a b i : Nat), itI l (a + b) i = itI l b (itI l a i) := by
  intro a
  induction a with
  | zero => intro b i; rw [Nat.zero_add]; rfl
  | succ a ih => intro b i; rw [Nat.succ_add]; exact ih b (nxI l i)
theorem Wl.loop (h : Wl l) : ∃ i r, i < l.length ∧ 1 ≤ r ∧ r ≤ l.length ∧ itI l r i = i := by
  obtain ⟨p, q, h1, h2, h3⟩ := php l.length (fun k => itI l k 0) (fun k _ => h.it k h.pos)
  refine ⟨itI l p 0, q - p, h.it p h.pos, by omega, by omega, ?_⟩
  rw [← it_add, show p + (q - p) = q by omega]
  exact h3.symm
theorem Wl.run (h : Wl l) {i0 : Nat} (hi0 : i0 < l.length) : ∀ (fuel i : Nat) (out : List Int), i < l.length → out ≠ [] → (∃ r, 1 ≤ r ∧ r ≤ fuel ∧ itI l r i = i0) → cyc l (rw_ l i0).a fuel (rw_ l i).a out ≠ [] := by
  intro fuel
  induction fuel with
  | zero => rintro i out _ _ ⟨r, h1, h2, _⟩; omega
  | succ fuel ih =>
    rintro i out hi ho ⟨r, h1, h2, h3⟩
    have hid := h.idx hi
    obtain ⟨n1, n2⟩ := h.nx hi
    unfold cyc
    rw [hid]
    rw [if_neg (by omega)]
    by_cases e : (rw_ l (i : Int)).b = (rw_ l i0).a
    · rw [if_pos e]; exact ho
    · rw [if_neg e, if_neg (h.ok i hi).1, ← n2]
      refine ih _ _ n1 (by simp) ⟨r - 1, ?_, by omega, ?_⟩
      · rcases Nat.lt_or_ge 1 r with h4 | h4
        · omega
        · exfalso
          obtain rfl : r = 1 := by omega
          have h5 : nxI l i = i0 := h3
          rw [h5] at n2
          exact e n2.symm
      · obtain ⟨k, rfl⟩ : ∃ k, r = k + 1 := ⟨r - 1, by omega⟩
        exact h3
theorem cyc_grow (l : List Wait) (s : Int) : ∀ (k : Nat) (a : Int) (out : List Int), cyc l s k a out ≠ [] → out.length ≤ (cyc l s k a out).length := by
  intro k
  induction k with
  | zero => intro a out h; exact absurd rfl h
  | succ k ih =>
    intro a out h
    unfold cyc at h ⊢
    split
    · rename_i e; rw [if_pos e] at h; exact absurd rfl h
    · rename_i e; rw [if_neg e] at h
      split
      · exact Nat.le_refl _
      · rename_i e2; rw [if_neg e2] at h
        split
        · rename_i e3; rw [if_pos e3] at h; exact absurd rfl h
        · rename_i e3; rw [if_neg e3] at h
          have := ih _ _ h
          simp only [List.length_append, List.length_singleton] at this
          omega
theorem wcL_some {l : List Wait} {i : Nat} (hi : i < l.length) (h : cycAt l i ≠ []) : ∃ j, j < l.length ∧ wcL l = cycAt l j ∧ cycAt l j ≠ [] := by
  unfold wcL
  cases e : ((List.range l.length).map (cycAt l)).find? (fun r => decide (0 < r.length)) with
  | none =>
    exfalso
    have := List.find?_eq_none.1 e (cycAt l i) (List.mem_map.2 ⟨i, List.mem_range.2 hi, rfl⟩)
    simp only [decide_eq_true_eq] at this
    exact this (List.length_pos_iff.2 h)
  | some r =>
    have h1 := List.mem_of_find?_eq_some e
    have h2 := List.find?_some e
    obtain ⟨j, hj, rfl⟩ := List.mem_map.1 h1
    exact ⟨j, List.mem_range.1 hj, rfl, List.length_pos_iff.1 (by simpa using h2)⟩
theorem Wl.long (h : Wl l) : 1 < (wcL l).length := by
  obtain ⟨i, r, hi, r1, r2, hr⟩ := h.loop
  obtain ⟨j, hj, e, hne⟩ := wcL_some hi (h.run hi l.length i [(rw_ l i).a] hi (by simp) ⟨r, r1, r2, hr⟩)
  rw [e]
  unfold cycAt at hne ⊢
  obtain ⟨n, hn⟩ : ∃ n, l.length = n + 1 := ⟨l.length - 1, by have := h.pos; omega⟩
  rw [hn] at hne ⊢
  rw [cyc] at hne ⊢
  have hid := h.idx hj
  rw [hid] at hne ⊢
  rw [if_neg (by omega), if_neg (h.ok j hj).2, if_neg (h.ok j hj).1] at hne ⊢
  have := cyc_grow l _ _ _ _ hne
  simp only [List.length_append, List.length_singleton] at this
  exact this
end
theorem waits_mem {n : Net} {k : Nat} {w : Wait} (h : w ∈ waitsTo n k) : ∃ b : Nat, b < k ∧ waitsB n b = true ∧ w = ⟨b, waitTo n b⟩ := by
  unfold waitsTo at h
  obtain ⟨b, hb, rfl⟩ := List.mem_map.1 h
  have := List.mem_filter.1 hb
  exact ⟨b, List.mem_range.1 this.1, this.2, rfl⟩
theorem waits_sorted (n : Net) (k : Nat) : (waitsTo n k).Pairwise (fun x y => x.a < y.a) := by
  unfold waitsTo
  rw [List.pairwise_map]
  refine List.Pairwise.filter _ ?_
  refine (List.pairwise_lt_range).imp (fun {a b} h => ?_)
  show (a : Int) < (b : Int)
  omega
theorem waits_lt {n : Net} {k i j : Nat} (hij : i < j) (hj : j < (waitsTo n k).length) : (rw_ (waitsTo n k) i).a < (rw_ (waitsTo n k) j).a := by
  rw [rw_get _ i (by omega), rw_get _ j hj]
  exact (List.pairwise_iff_getElem.1 (waits_sorted n k)) i j (by omega) hj hij
theorem stuck_wl {n : Net} (ok : netOk n = true) (hE : WE n) (hs : stuckN n = true) : Wl (waitsTo n n.bufs.length) := by
  unfold stuckN at hs
  simp only [Bool.and_eq_true, Bool.not_eq_true', beq_iff_eq] at hs
  obtain ⟨so, si, ss, sa, hw, hx⟩ := hE
  have hm : allGrants n = [] ∧ enteringN n = [] := by
    have := hs.2
    unfold movesV at this
    exact ⟨List.eq_nil_of_length_eq_zero (by omega), List.eq_nil_of_length_eq_zero (by omega)⟩
  have S : Stk n so si ss sa := ⟨ok, hw, hx, hm.1, hm.2⟩
  -- a full buffer waits for another one
  have key : ∀ b : Nat, b < n.bufs.length → 0 < (rl n.bufs (b : Int)).length → waitsB n b = true ∧ 0 ≤ waitTo n b ∧ waitTo n b < (n.bufs.length : Int) ∧ 0 < (rl n.bufs (waitTo n b)).length ∧ waitTo n b ≠ b := by
    intro b hb h0
    have hA := buf_at ok (b := (b : Int)) (by omega) (by omega)
    have h0' : 0 < (bufOf n ((b : Int) / 10) ((b : Int) % 10)).length := by
      unfold bufOf
      rw [show 10 * ((b : Int) / 10) + (b : Int) % 10 = b by omega]
      exact h0
    have W := S.waits hA h0'
    obtain ⟨p, hp⟩ : ∃ p, wantedN n ((b : Int) / 10) ((b : Int) % 10) = p := ⟨_, rfl⟩
    rw [hp] at W
    have i0 := hA.i0; have i9 := hA.i9
    have hreq := S.req hA.nd i0 i9 W.p0 (by have := W.p3; omega)
    have hwb := waits_5 hp W.p0 (by have := W.p3; omega) W.lv hreq
    have hto := waitTo_full (b := (b : Int)) hp W.room
    obtain ⟨b1, b2, b3, b4, b5, b6, b7⟩ := behind_idx (c := (b : Int) % 10 % 2) ok W.p0 W.p3 W.lv (by omega) (by omega)
    have hgeo := geo (g := n.mesh.g) W.p0 W.p3 hA.nd b2
    refine ⟨hwb, by rw [hto]; exact b6, by rw [hto]; exact b7, by rw [hto]; have := W.full; omega, ?_⟩
    rw [hto]
    intro e
    apply hgeo.2.2.2.1
    unfold behindI at e
    omega
  have full : ∀ b : Nat, b < n.bufs.length → waitsB n b = true → 0 < (rl n.bufs (b : Int)).length := by
    intro b hb h
    unfold waitsB at h
    simp only [Bool.and_eq_true, decide_eq_true_eq] at h
    have := wanted_len h.1.1.1
    unfold bufOf at this
    rw [show 10 * ((b : Int) / 10) + (b : Int) % 10 = b by omega] at this
    exact this
  have at_ : ∀ i : Nat, i < (waitsTo n n.bufs.length).length → ∃ b : Nat, b < n.bufs.length ∧ waitsB n b = true ∧ rw_ (waitsTo n n.bufs.length) i = ⟨b, waitTo n b⟩ := fun i hi => by
    rw [rw_get _ i hi]
    exact waits_mem (List.getElem_mem hi)
  have find : ∀ t : Int, 0 ≤ t → t < (n.bufs.length : Int) → 0 < (rl n.bufs t).length → ∃ j : Nat, j < (waitsTo n n.bufs.length).length ∧ (rw_ (waitsTo n n.bufs.length) j).a = t := by
    intro t t0 t1 hl
    obtain ⟨b, rfl⟩ : ∃ b : Nat, t = b := ⟨t.toNat, by omega⟩
    have hk := key b (by omega) hl
    have hm : (⟨(b : Int), waitTo n b⟩ : Wait) ∈ waitsTo n n.bufs.length := List.mem_map.2 ⟨b, List.mem_filter.2 ⟨List.mem_range.2 (by omega), hk.1⟩, rfl⟩
    obtain ⟨j, hj, e⟩ := List.getElem_of_mem hm
    exact ⟨j, hj, by rw [rw_get _ j hj, e]⟩
  refine ⟨?_, fun i j hi hj e => ?_, fun i hi => ?_, fun i hi => ?_⟩
  · obtain ⟨a, i, hA, h0⟩ := Stk.some S hs.1
    have hidx := hA.idx
    obtain ⟨j, hj, _⟩ := find (10 * a + i) hidx.2.2.1 hidx.2.2.2.1 h0
    omega
  · rcases Nat.lt_trichotomy i j with h | h | h
    · have := waits_lt (n := n) h hj; omega
    · exact h
    · have := waits_lt (n := n) h hi; omega
  · obtain ⟨b, hb, h1, h2⟩ := at_ i hi
    have hk := key b hb (full b hb h1)
    rw [h2]
    exact find _ hk.2.1 hk.2.2.1 hk.2.2.2.1
  · obtain ⟨b, hb, h1, h2⟩ := at_ i hi
    have hk := key b hb (full b hb h1)
    rw [h2]
    exact ⟨by show waitTo n b ≠ -1; omega, hk.2.2.2.2⟩
end Go.Proofs.YtaihmgbflhbebaaGreat
namespace Go.Proofs.YtaihmgbflhbebaaGreat
open Go.RowKit Go.Proofs.YtaihmgbflhbebaaGreatW.PrintWords
open NoC
theorem runNet_ok {n : Net} {s : Int} (h : canRunN n s = true) : netOk (runNetN n s) = true ∧ runNetN n s = runN n s.toNat := by
  obtain ⟨ok, s0, s4, st⟩ := canRun_parts h
  have e : runNetN n s = runN n s.toNat := by unfold runNetN; rw [if_pos h]
  exact ⟨by rw [e]; exact runN_ok ok _ (by omega), e⟩
set_option maxHeartbeats 8000000 in
set_option maxRecDepth 100000 in
theorem impl_StuckAfter (n : Net) (s : Int) (q : NA) (w : World) (hr : NetR 80 w n q) (hA : ∀ x ∈ n.arrs, x.length ≤ 1048576) :
    Calls Tryz.prog 33 #[.agg (netCells n q), .int .i64 s] w fun e w' => e = .returned (.bool (stuckAfterN n s)) ∧ Below w.heap.size w w' := by
  have HR := Lib.hid hr
  have NBQ := Lib.hid hr.nb
  have HA := Lib.hid hA
  clear hA
  obtain ⟨a1, a2, a3, a4, a5, a6, a7, a8, c1, c2, c3, c4, c5, c6, c7, c8⟩ := q
  clear hr
  dsimp only [netCells]
  have HC : Hid (∀ W : World, Below w.heap.size w W → Calls Tryz.prog 18 #[.agg #[.int .i64 n.mesh.g.w, .int .i64 n.mesh.g.h, .slice a1 n.mesh.br.length c1, .slice a2 n.pa.length c2, .slice a3 n.pb.length c3, .slice a4 n.bufs.length c4, .slice a5 n.owners.length c5, .slice a6 n.turns.length c6, .slice a7 n.srcs.length c7, .slice a8 n.arrs.length c8, .int .i64 n.time], .int .i64 s] W fun e w' => GotNV W w' (runNetN n s) (.bool (canRunN n s)) e ∧ Below W.heap.size W w') := Lib.hid (fun W hb => impl_RunNet n s ⟨a1, a2, a3, a4, a5, a6, a7, a8, c1, c2, c3, c4, c5, c6, c7, c8⟩ W (HR.out.below hb) HA.out)
  have HE1 : Hid (canRunN n s = true → netOk (runNetN n s) = true ∧ NB (runNetN n s) ∧ stuckAfterN n s = stuckN (runNetN n s)) := Lib.hid (fun h => by
    obtain ⟨h1, h2⟩ := runNet_ok h
    obtain ⟨ok, s0, s4, st⟩ := canRun_parts h
    refine ⟨h1, ?_, by unfold stuckAfterN; rw [h, h2]; rfl⟩
    rw [h2] at h1 ⊢
    exact run_nb NBQ.out HA.out _ (by omega) h1)
  have HE2 : Hid (canRunN n s = false → stuckAfterN n s = false) := Lib.hid (fun h => by unfold stuckAfterN; rw [h]; rfl)
  obtain ⟨X, hX⟩ : ∃ X, runNetN n s = X := ⟨_, rfl⟩
  rw [hX] at HC HE1
  clear hX
  cases hk : canRunN n s
  · have HE := Lib.hid (HE2.out hk)
    rw [hk] at HC
    go_enter Tryz.func33, Tryz.ntmps33
    go_wp2_with fail
    refine (HC.out _ bel).mono ?_
    rintro e w1 ⟨hg1, HBC⟩
    obtain ⟨qq, v4, v7, v8, rfl, HN0⟩ := hg1
    obtain ⟨b1, b2, b3, b4, b5, b6, b7, b8, d1, d2, d3, d4, d5, d6, d7, d8⟩ := qq
    dsimp only [netCells]
    have HN1 := Lib.hid HN0
    clear HN0
    obtain ⟨w0, e0⟩ : ∃ z, z = w1.alloc (.cells #[.int .i64 X.mesh.g.w, .int .i64 X.mesh.g.h, .slice b1 X.mesh.br.length d1, .slice b2 X.pa.length d2, .slice b3 X.pb.length d3, .slice b4 X.bufs.length d4, .slice b5 X.owners.length d5, .slice b6 X.turns.length d6, .slice b7 X.srcs.length d7, .slice b8 X.arrs.length d8, .int .i64 X.time] 35) := ⟨_, rfl⟩
    have hz0 : w0.heap.size = w1.heap.size + 1 := by rw [e0]; simp only [szs]
    have hw01 : Below w1.heap.size w1 w0 := by rw [e0]; exact bw_alloc _ (bw_refl w1)
    obtain ⟨bx, ebx⟩ : ∃ z, z = w1.heap.size := ⟨_, rfl⟩
    have HBT : Hid (BT w0 bx X ⟨b1, b2, b3, b4, b5, b6, b7, b8, d1, d2, d3, d4, d5, d6, d7, d8⟩) := Lib.hid (by rw [e0, ebx]; exact blk_new w1 _)
    obtain ⟨lo, elo⟩ : ∃ z, z = w.heap.size + 1 := ⟨_, rfl⟩
    have HN : Hid (NX w0 lo X ⟨b1, b2, b3, b4, b5, b6, b7, b8, d1, d2, d3, d4, d5, d6, d7, d8⟩ v4 v7 v8) := Lib.hid ((HN1.out.lower (by simp only [szs]; omega)).below hw01)
    have HHB : Hid (Below w.heap.size w w0) := Lib.hid (bw_then (bw_then (bw_alloc _ (bw_refl w)) HBC) hw01)
    have sw : w.heap.size + 1 ≤ w1.heap.size := by have := bw_size HBC; simp only [szs] at this; omega
    have box11 : Box (w1.alloc (.cells #[.int .i64 X.mesh.g.w, .int .i64 X.mesh.g.h, .slice b1 X.mesh.br.length d1, .slice b2 X.pa.length d2, .slice b3 X.pb.length d3, .slice b4 X.bufs.length d4, .slice b5 X.owners.length d5, .slice b6 X.turns.length d6, .slice b7 X.srcs.length d7, .slice b8 X.arrs.length d8, .int .i64 X.time] 35)) w1.heap.size #[.int .i64 X.mesh.g.w, .int .i64 X.mesh.g.h, .slice b1 X.mesh.br.length d1, .slice b2 X.pa.length d2, .slice b3 X.pb.length d3, .slice b4 X.bufs.length d4, .slice b5 X.owners.length d5, .slice b6 X.turns.length d6, .slice b7 X.srcs.length d7, .slice b8 X.arrs.length d8, .int .i64 X.time] := by rw [← e0, ← ebx]; exact HBT.out.box
    obtain ⟨xo0, xo1, xo2, xo3, xo4, xo5, xo6, xo7, xo8, xo9, xo10⟩ := all11 box11
    clear box11
    have xol : w1.heap.size < (w1.alloc (.cells #[.int .i64 X.mesh.g.w, .int .i64 X.mesh.g.h, .slice b1 X.mesh.br.length d1, .slice b2 X.pa.length d2, .slice b3 X.pb.length d3, .slice b4 X.bufs.length d4, .slice b5 X.owners.length d5, .slice b6 X.turns.length d6, .slice b7 X.srcs.length d7, .slice b8 X.arrs.length d8, .int .i64 X.time] 35)).heap.size := by rw [← e0, ← ebx]; exact HBT.out.lt
    have sb1 : bx < w0.heap.size := by omega
    have sb2 : w.heap.size + 1 ≤ bx := by omega
    have sl1 : lo ≤ w.heap.size + 1 := by omega
    have sl2 : w.heap.size + 1 ≤ lo := by omega
    have sl3 : lo ≤ bx := by omega
    have sl4 : lo ≤ w0.heap.size := by omega
    go_wp2
    go_ret
    rw [← e0]
    exact ⟨ret_bool HE.out.symm, HHB.out⟩
  · obtain ⟨ok, nbx, he⟩ := HE1.out hk
    have HE := Lib.hid he
    have OK := Lib.hid ok
    have NBX := Lib.hid nbx
    clear he ok nbx
    rw [hk] at HC
    go_enter Tryz.func33, Tryz.ntmps33
    go_wp2_with fail
    refine (HC.out _ bel).mono ?_
    rintro e w1 ⟨hg1, HBC⟩
    obtain ⟨qq, v4, v7, v8, rfl, HN0⟩ := hg1
    obtain ⟨b1, b2, b3, b4, b5, b6, b7, b8, d1, d2, d3, d4, d5, d6, d7, d8⟩ := qq
    dsimp only [netCells]
    have HN1 := Lib.hid HN0
    clear HN0
    obtain ⟨w0, e0⟩ : ∃ z, z = w1.alloc (.cells #[.int .i64 X.mesh.g.w, .int .i64 X.mesh.g.h, .slice b1 X.mesh.br.length d1, .slice b2 X.pa.length d2, .slice b3 X.pb.length d3, .slice b4 X.bufs.length d4, .slice b5 X.owners.length d5, .slice b6 X.turns.length d6, .slice b7 X.srcs.length d7, .slice b8 X.arrs.length d8, .int .i64 X.time] 35) := ⟨_, rfl⟩
    have hz0 : w0.heap.size = w1.heap.size + 1 := by rw [e0]; simp only [szs]
    have hw01 : Below w1.heap.size w1 w0 := by rw [e0]; exact bw_alloc _ (bw_refl w1)
    obtain ⟨bx, ebx⟩ : ∃ z, z = w1.heap.size := ⟨_, rfl⟩
    have HBT : Hid (BT w0 bx X ⟨b1, b2, b3, b4, b5, b6, b7, b8, d1, d2, d3, d4, d5, d6, d7, d8⟩) := Lib.hid (by rw [e0, ebx]; exact blk_new w1 _)
    obtain ⟨lo, elo⟩ : ∃ z, z = w.heap.size + 1 := ⟨_, rfl⟩
    have HN : Hid (NX w0 lo X ⟨b1, b2, b3, b4, b5, b6, b7, b8, d1, d2, d3, d4, d5, d6, d7, d8⟩ v4 v7 v8) := Lib.hid ((HN1.out.lower (by simp only [szs]; omega)).below hw01)
    have HHB : Hid (Below w.heap.size w w0) := Lib.hid (bw_then (bw_then (bw_alloc _ (bw_refl w)) HBC) hw01)
    have sw : w.heap.size + 1 ≤ w1.heap.size := by have := bw_size HBC; simp only [szs] at this; omega
    have box11 : Box (w1.alloc (.cells #[.int .i64 X.mesh.g.w, .int .i64 X.mesh.g.h, .slice b1 X.mesh.br.length d1, .slice b2 X.pa.length d2, .slice b3 X.pb.length d3, .slice b4 X.bufs.length d4, .slice b5 X.owners.length d5, .slice b6 X.turns.length d6, .slice b7 X.srcs.length d7, .slice b8 X.arrs.length d8, .int .i64 X.time] 35)) w1.heap.size #[.int .i64 X.mesh.g.w, .int .i64 X.mesh.g.h, .slice b1 X.mesh.br.length d1, .slice b2 X.pa.length d2, .slice b3 X.pb.length d3, .slice b4 X.bufs.length d4, .slice b5 X.owners.length d5, .slice b6 X.turns.length d6, .slice b7 X.srcs.length d7, .slice b8 X.arrs.length d8, .int .i64 X.time] := by rw [← e0, ← ebx]; exact HBT.out.box
    obtain ⟨xo0, xo1, xo2, xo3, xo4, xo5, xo6, xo7, xo8, xo9, xo10⟩ := all11 box11
    clear box11
    have xol : w1.heap.size < (w1.alloc (.cells #[.int .i64 X.mesh.g.w, .int .i64 X.mesh.g.h, .slice b1 X.mesh.br.length d1, .slice b2 X.pa.length d2, .slice b3 X.pb.length d3, .slice b4 X.bufs.length d4, .slice b5 X.owners.length d5, .slice b6 X.turns.length d6, .slice b7 X.srcs.length d7, .slice b8 X.arrs.length d8, .int .i64 X.time] 35)).heap.size := by rw [← e0, ← ebx]; exact HBT.out.lt
    have sb1 : bx < w0.heap.size := by omega
    have sb2 : w.heap.size + 1 ≤ bx := by omega
    have sl1 : lo ≤ w.heap.size + 1 := by omega
    have sl2 : w.heap.size + 1 ≤ lo := by omega
    have sl3 : lo ≤ bx := by omega
    have sl4 : lo ≤ w0.heap.size := by omega
    go_wp2_with fail
    rw [← e0]
    rw [← ebx]
    refine (impl_isStuck X _ bx _ (HN.out.reads NBX.out) HBT.out.box OK.out).mono ?_
    rintro e w3 ⟨rfl, hb3⟩
    go_wp2
    go_ret
    exact ⟨ret_bool HE.out.symm, bw_then HHB.out hb3⟩
end Go.Proofs.YtaihmgbflhbebaaGreat
namespace Go.Proofs.YtaihmgbflhbebaaGreat
open NoC
end Go.Proofs.YtaihmgbflhbebaaGreat
namespace Go.Proofs.YtaihmgbflhbebaaGreat
open Go.RowKit Go.Proofs.YtaihmgbflhbebaaGreatW.PrintWords
open NoC
theorem RU.off {α : Type} {d : Kd α} {e : Nat} {w : World} {lo hi : Nat} {v : Value} {xs : List α} (h : RU d e w lo hi v xs) {g : Nat} (hg : g < lo) (j : Nat) (u : Value) : RU d e (w.setCell ⟨g, j, none⟩ u) lo hi v xs :=
  h.step (fun k h1 _ _ => Below.heap_setCell w ⟨g, j, none⟩ u k (by show k ≠ g; omega))
theorem OB.off {w : World} {lo hi : Nat} {v : Value} {l : List (List Flit)} {vs : List Value} (h : OB w lo hi v l vs) {g : Nat} (hg : g < lo) (j : Nat) (u : Value) : OB (w.setCell ⟨g, j, none⟩ u) lo hi v l vs :=
  h.step (fun k h1 _ _ => Below.heap_setCell w ⟨g, j, none⟩ u k (by show k ≠ g; omega))
theorem RU.bel {α : Type} {d : Kd α} {e : Nat} {w w1 : World} {lo hi : Nat} {v : Value} {xs : List α} (hb : Below w.heap.size w w1) (h : RU d e w lo hi v xs) : RU d e w1 lo hi v xs := h.below hb
theorem OB.bel {w w1 : World} {lo hi : Nat} {v : Value} {l : List (List Flit)} {vs : List Value} (hb : Below w.heap.size w w1) (h : OB w lo hi v l vs) : OB w1 lo hi v l vs := h.below hb
def WV (n : Net) (b : Int) : Value := .tuple #[.agg #[.int .i64 b, .int .i64 (waitTo n b)], .bool true]
def WV0 : Value := .tuple #[.agg #[.int .i64 0, .int .i64 0], .bool false]
def WVV (n : Net) (b : Int) : Value := if waitsB n b = true then WV n b else WV0
theorem WVV_no {n : Net} {b : Int} (h : waitsB n b = false) : WVV n b = WV0 := by rw [WVV, h]; exact if_neg (by decide)
theorem WVV_yes {n : Net} {b : Int} (h : waitsB n b = true) : WVV n b = WV n b := by rw [WVV, h]; exact if_pos rfl
set_option maxHeartbeats 8000000 in
set_option maxRecDepth 100000 in
theorem impl_waits (n : Net) (q : NA) (bx : Nat) (b : Int) (w : World) (hr : NetR 80 w n q) (hx : Box w bx (netCells n q)) (ok : netOk n = true) (h0 : 0 ≤ b) (h1 : b < (n.bufs.length : Int)) :
    Calls Tryz.prog 61 #[.pointer (some ⟨bx, 0, none⟩), .int .i64 b] w fun e w' => e = .returned (WVV n b) ∧ Below w.heap.size w w' := by
  have R := Lib.hid hr
  have X := Lib.hid hx
  have HA := Lib.hid (buf_at ok h0 h1)
  have b160 := bufs_len ok
  clear ok
  obtain ⟨y0, y1⟩ := HA.out.wanted
  obtain ⟨a0, a15, _, _, m2, _, _, _⟩ := HA.out.idx
  have i0 : 0 ≤ b % 10 := by omega
  have i9 : b % 10 ≤ 9 := by omega
  obtain ⟨a1, a2, a3, a4, a5, a6, a7, a8, c1, c2, c3, c4, c5, c6, c7, c8⟩ := q; obtain ⟨Rbr, Rpa, Rpb, Rbu, Row, Rtu, Rso, Rar, L1, L2, L3, L4, L5, L6, L7, L8, L9, L10, L11⟩ := hr; have M9 := Lib.hid L9; have M10 := Lib.hid L10; have M11 := Lib.hid L11; clear L9 L10 L11; dsimp only [netCells] at *
  have xl := hx.lt; have x0 : w.cell? ⟨bx, 0, none⟩ = some (.int .i64 n.mesh.g.w) := hx.get 0; have x1 : w.cell? ⟨bx, 1, none⟩ = some (.int .i64 n.mesh.g.h) := hx.get 1; have x2 : w.cell? ⟨bx, 2, none⟩ = some (.slice a1 n.mesh.br.length c1) := hx.get 2; have x3 : w.cell? ⟨bx, 3, none⟩ = some (.slice a2 n.pa.length c2) := hx.get 3; have x4 : w.cell? ⟨bx, 4, none⟩ = some (.slice a3 n.pb.length c3) := hx.get 4; have x5 : w.cell? ⟨bx, 5, none⟩ = some (.slice a4 n.bufs.length c4) := hx.get 5; have x6 : w.cell? ⟨bx, 6, none⟩ = some (.slice a5 n.owners.length c5) := hx.get 6; have x7 : w.cell? ⟨bx, 7, none⟩ = some (.slice a6 n.turns.length c6) := hx.get 7; have x8 : w.cell? ⟨bx, 8, none⟩ = some (.slice a7 n.srcs.length c7) := hx.get 8; have x9 : w.cell? ⟨bx, 9, none⟩ = some (.slice a8 n.arrs.length c8) := hx.get 9; have x10 : w.cell? ⟨bx, 10, none⟩ = some (.int .i64 n.time) := hx.get 10; clear hx
  obtain ⟨p, hp⟩ : ∃ p, wantedN n (b / 10) (b % 10) = p := ⟨_, rfl⟩
  rw [hp] at y0 y1
  have HP := Lib.hid hp
  clear hp
  have W0 : ∀ W : World, w.heap.size ≤ W.heap.size → True := fun _ _ => trivial
  by_cases p0 : p < 0
  · have HN := Lib.hid (waits_1 (n := n) (b := b) (by rw [HP.out]; exact p0))
    go_enter Tryz.func61, Tryz.ntmps61
    go_wp2_with (go_at_call 88; refine (impl_wanted n _ bx (b / 10) (b % 10) _ (R.out.below bel) (X.out.below bel) HA.out).mono ?_; rintro e w1 ⟨he, hb1⟩; rw [HP.out] at he; subst he; obtain ⟨hc1, hf1, hz1⟩ := bcell hb1; (try simp only [szs] at hz1); have hb2 := far2; obtain ⟨hc2, hf2, hz2⟩ := bcell hb2; (try simp only [szs] at hz2); try (first | obtain ⟨hy1, hy2, hy3, hy4⟩ := lts4 hz2 | obtain ⟨hy1, hy2, hy3⟩ := lts3 hz2 | obtain ⟨hy1, hy2⟩ := lts2 hz2 | have hy1 := lts1 hz2); have hb9 := hb1)
    exact bodyPost_ret (v := WV0) (by simp [results, Tryz.results61, go_sem, WV0, *]) rfl ⟨by rw [WVV_no HN.out], bel⟩
  by_cases p4 : p = 4
  · have HN := Lib.hid (waits_2 (n := n) (b := b) (by rw [HP.out]; exact p4))
    have f4 : (p == 4) = true := beq_iff_eq.2 p4
    clear p4
    go_enter Tryz.func61, Tryz.ntmps61
    go_wp2_with (go_at_call 88; refine (impl_wanted n _ bx (b / 10) (b % 10) _ (R.out.below bel) (X.out.below bel) HA.out).mono ?_; rintro e w1 ⟨he, hb1⟩; rw [HP.out] at he; subst he; obtain ⟨hc1, hf1, hz1⟩ := bcell hb1; (try simp only [szs] at hz1); have hb2 := far2; obtain ⟨hc2, hf2, hz2⟩ := bcell hb2; (try simp only [szs] at hz2); try (first | obtain ⟨hy1, hy2, hy3, hy4⟩ := lts4 hz2 | obtain ⟨hy1, hy2, hy3⟩ := lts3 hz2 | obtain ⟨hy1, hy2⟩ := lts2 hz2 | have hy1 := lts1 hz2); have hb9 := hb1)
    exact bodyPost_ret (v := WV0) (by simp [results, Tryz.results61, go_sem, WV0, *]) rfl ⟨by rw [WVV_no HN.out], bel⟩
  have f4 : (p == 4) = false := beq_eq_false_iff_ne.2 p4
  have P4 := Lib.hid p4
  have p3 : p ≤ 3 := by omega
  have p00 : 0 ≤ p := by omega
  clear p4
  cases hl : live n.mesh (4 * (b / 10) + p)
  · have HN := Lib.hid (waits_3 HP.out hl)
    go_enter Tryz.func61, Tryz.ntmps61
    go_wp2_with (first | (go_at_call 88; refine (impl_wanted n _ bx (b / 10) (b % 10) _ (R.out.below bel) (X.out.below bel) HA.out).mono ?_; rintro e w1 ⟨he, hb1⟩; rw [HP.out] at he; subst he; obtain ⟨hc1, hf1, hz1⟩ := bcell hb1; (try simp only [szs] at hz1); have hb2 := far2; obtain ⟨hc2, hf2, hz2⟩ := bcell hb2; (try simp only [szs] at hz2); try (first | obtain ⟨hy1, hy2, hy3, hy4⟩ := lts4 hz2 | obtain ⟨hy1, hy2, hy3⟩ := lts3 hz2 | obtain ⟨hy1, hy2⟩ := lts2 hz2 | have hy1 := lts1 hz2); have hb9 := hb1) | (go_at_call 89; refine (impl_live n.mesh (4 * (b / 10) + p) a1 _ _ (by exact Kd.C_below Rbr bel) L1).mono ?_; rintro e w1 ⟨rfl, hb1⟩; obtain ⟨hc1, hf1, hz1⟩ := bcell hb1; (try simp only [szs] at hz1); have hb2 := far2; obtain ⟨hc2, hf2, hz2⟩ := bcell hb2; (try simp only [szs] at hz2); try (first | obtain ⟨hy1, hy2, hy3, hy4⟩ := lts4 hz2 | obtain ⟨hy1, hy2, hy3⟩ := lts3 hz2 | obtain ⟨hy1, hy2⟩ := lts2 hz2 | have hy1 := lts1 hz2); have hb9 := hb1))
    exact bodyPost_ret (v := WV0) (by simp [results, Tryz.results61, go_sem, WV0, *]) rfl ⟨by rw [WVV_no HN.out], bel⟩
  have HL := Lib.hid hl
  cases hq : requestN n (b / 10) (b % 10) p
  case true =>
    have HQ : Hid (reqI n (b / 10) (b % 10) p = true) := Lib.hid ((reqI_in p00 (by omega)).trans hq)
    have HN := Lib.hid (waits_4 HP.out hq)
    clear hq
    go_enter Tryz.func61, Tryz.ntmps61
    go_wp2_with (first | (go_at_call 88; refine (impl_wanted n _ bx (b / 10) (b % 10) _ (R.out.below bel) (X.out.below bel) HA.out).mono ?_; rintro e w1 ⟨he, hb1⟩; rw [HP.out] at he; subst he; obtain ⟨hc1, hf1, hz1⟩ := bcell hb1; (try simp only [szs] at hz1); have hb2 := far2; obtain ⟨hc2, hf2, hz2⟩ := bcell hb2; (try simp only [szs] at hz2); try (first | obtain ⟨hy1, hy2, hy3, hy4⟩ := lts4 hz2 | obtain ⟨hy1, hy2, hy3⟩ := lts3 hz2 | obtain ⟨hy1, hy2⟩ := lts2 hz2 | have hy1 := lts1 hz2); have hb9 := hb1) | (go_at_call 89; refine (impl_live n.mesh (4 * (b / 10) + p) a1 _ _ (by exact Kd.C_below Rbr bel) L1).mono ?_; rintro e w1 ⟨rfl, hb1⟩; obtain ⟨hc1, hf1, hz1⟩ := bcell hb1; (try simp only [szs] at hz1); have hb2 := far2; obtain ⟨hc2, hf2, hz2⟩ := bcell hb2; (try simp only [szs] at hz2); try (first | obtain ⟨hy1, hy2, hy3, hy4⟩ := lts4 hz2 | obtain ⟨hy1, hy2, hy3⟩ := lts3 hz2 | obtain ⟨hy1, hy2⟩ := lts2 hz2 | have hy1 := lts1 hz2); have hb9 := hb1) | (go_at_call 90; refine (impl_isRequest n _ bx (b / 10) (b % 10) p _ (R.out.below bel) (X.out.below bel) HA.out).mono ?_; rintro e w1 ⟨he, hb1⟩; rw [HQ.out] at he; subst he; obtain ⟨hc1, hf1, hz1⟩ := bcell hb1; (try simp only [szs] at hz1); have hb2 := far2; obtain ⟨hc2, hf2, hz2⟩ := bcell hb2; (try simp only [szs] at hz2); try (first | obtain ⟨hy1, hy2, hy3, hy4⟩ := lts4 hz2 | obtain ⟨hy1, hy2, hy3⟩ := lts3 hz2 | obtain ⟨hy1, hy2⟩ := lts2 hz2 | have hy1 := lts1 hz2); have hb9 := hb1))
    exact bodyPost_ret (v := WV0) (by simp [results, Tryz.results61, go_sem, WV0, *]) rfl ⟨by rw [WVV_no HN.out], bel⟩
  have HQ : Hid (reqI n (b / 10) (b % 10) p = false) := Lib.hid ((reqI_in p00 (by omega)).trans hq)
  have HQ2 := Lib.hid hq
  have HN := Lib.hid (waits_5 HP.out p00 P4.out hl hq)
  clear hq
  have ec : b % 10 % 2 = b % 2 := by omega
  have EC := Lib.hid ec
  clear ec
  cases hro : roomN n (b / 10) p (b % 2)
  · have HT := Lib.hid (waitTo_full HP.out (by rw [EC.out]; exact hro))
    rw [EC.out] at HT
    have HRO := Lib.hid hro
    have HBN : Hid (behindN n (b / 10) p (b % 2) = waitTo n b) := Lib.hid (by rw [HT.out, behindN, if_neg (by omega), if_pos HL.out])
    clear hro
    obtain ⟨t, et⟩ : ∃ t, waitTo n b = t := ⟨_, rfl⟩
    rw [et] at HBN
    have ET := Lib.hid et
    clear et
    go_enter Tryz.func61, Tryz.ntmps61
    go_wp2_with (first | (go_at_call 88; refine (impl_wanted n _ bx (b / 10) (b % 10) _ (R.out.below bel) (X.out.below bel) HA.out).mono ?_; rintro e w1 ⟨he, hb1⟩; rw [HP.out] at he; subst he; obtain ⟨hc1, hf1, hz1⟩ := bcell hb1; (try simp only [szs] at hz1); have hb2 := far2; obtain ⟨hc2, hf2, hz2⟩ := bcell hb2; (try simp only [szs] at hz2); try (first | obtain ⟨hy1, hy2, hy3, hy4⟩ := lts4 hz2 | obtain ⟨hy1, hy2, hy3⟩ := lts3 hz2 | obtain ⟨hy1, hy2⟩ := lts2 hz2 | have hy1 := lts1 hz2); have hb9 := hb1) | (go_at_call 89; refine (impl_live n.mesh (4 * (b / 10) + p) a1 _ _ (by exact Kd.C_below Rbr bel) L1).mono ?_; rintro e w1 ⟨rfl, hb1⟩; obtain ⟨hc1, hf1, hz1⟩ := bcell hb1; (try simp only [szs] at hz1); have hb2 := far2; obtain ⟨hc2, hf2, hz2⟩ := bcell hb2; (try simp only [szs] at hz2); try (first | obtain ⟨hy1, hy2, hy3, hy4⟩ := lts4 hz2 | obtain ⟨hy1, hy2, hy3⟩ := lts3 hz2 | obtain ⟨hy1, hy2⟩ := lts2 hz2 | have hy1 := lts1 hz2); have hb9 := hb1) | (go_at_call 90; refine (impl_isRequest n _ bx (b / 10) (b % 10) p _ (R.out.below bel) (X.out.below bel) HA.out).mono ?_; rintro e w1 ⟨he, hb1⟩; rw [HQ.out] at he; subst he; obtain ⟨hc1, hf1, hz1⟩ := bcell hb1; (try simp only [szs] at hz1); have hb2 := far2; obtain ⟨hc2, hf2, hz2⟩ := bcell hb2; (try simp only [szs] at hz2); try (first | obtain ⟨hy1, hy2, hy3, hy4⟩ := lts4 hz2 | obtain ⟨hy1, hy2, hy3⟩ := lts3 hz2 | obtain ⟨hy1, hy2⟩ := lts2 hz2 | have hy1 := lts1 hz2); have hb9 := hb1) | (go_at_call 91; refine (impl_hasRoom n _ bx (b / 10) p (b % 2) _ (R.out.below bel) (X.out.below bel) HA.out.ok HA.out.nd p00 (by omega) (by omega) (by omega)).mono ?_; rintro e w1 ⟨he, hb1⟩; rw [HRO.out] at he; subst he; obtain ⟨hc1, hf1, hz1⟩ := bcell hb1; (try simp only [szs] at hz1); have hb2 := far2; obtain ⟨hc2, hf2, hz2⟩ := bcell hb2; (try simp only [szs] at hz2); try (first | obtain ⟨hy1, hy2, hy3, hy4⟩ := lts4 hz2 | obtain ⟨hy1, hy2, hy3⟩ := lts3 hz2 | obtain ⟨hy1, hy2⟩ := lts2 hz2 | have hy1 := lts1 hz2); have hb9 := hb1) | (go_at_call 73; refine (impl_behind n _ bx (b / 10) p (b % 2) _ (R.out.below bel) (X.out.below bel) HA.out.ok HA.out.nd p00 (by omega) (by omega) (by omega)).mono ?_; rintro e w1 ⟨he, hb1⟩; rw [HBN.out] at he; subst he; obtain ⟨hc1, hf1, hz1⟩ := bcell hb1; (try simp only [szs] at hz1); have hb2 := far2; obtain ⟨hc2, hf2, hz2⟩ := bcell hb2; (try simp only [szs] at hz2); try (first | obtain ⟨hy1, hy2, hy3, hy4⟩ := lts4 hz2 | obtain ⟨hy1, hy2, hy3⟩ := lts3 hz2 | obtain ⟨hy1, hy2⟩ := lts2 hz2 | have hy1 := lts1 hz2); have hb9 := hb1))
    exact bodyPost_ret (v := .tuple #[.agg #[.int .i64 b, .int .i64 t], .bool true]) (by simp [results, Tryz.results61, go_sem, *]) rfl ⟨by rw [WVV_yes HN.out, WV, ET.out], bel⟩
  · have HT := Lib.hid (waitTo_room HP.out (by rw [EC.out]; exact hro))
    rw [EC.out] at HT
    have HRO := Lib.hid hro
    obtain ⟨o0, o4⟩ := owner_some HA.out HP.out p00 (by omega) (by rw [EC.out]; exact hro) HQ2.out
    rw [EC.out] at o0 o4
    have m0 : 0 ≤ 10 * (b / 10) + 2 * p + b % 2 := by omega
    have m1 : 10 * (b / 10) + 2 * p + b % 2 < (n.owners.length : Int) := by omega
    obtain ⟨b5, o5, rfl, hb5, r0⟩ := rdI_int Row (10 * (b / 10) + 2 * p + b % 2) m0 m1
    unfold ownAt at HT o0 o4
    obtain ⟨o, ho⟩ : ∃ o, ri n.owners (10 * (b / 10) + 2 * p + b % 2) = o := ⟨_, rfl⟩
    rw [ho] at r0 HT o0 o4
    clear ho hro
    go_enter Tryz.func61, Tryz.ntmps61
    go_wp2_with (first | (go_at_call 88; refine (impl_wanted n _ bx (b / 10) (b % 10) _ (R.out.below bel) (X.out.below bel) HA.out).mono ?_; rintro e w1 ⟨he, hb1⟩; rw [HP.out] at he; subst he; obtain ⟨hc1, hf1, hz1⟩ := bcell hb1; (try simp only [szs] at hz1); have hb2 := far2; obtain ⟨hc2, hf2, hz2⟩ := bcell hb2; (try simp only [szs] at hz2); try (first | obtain ⟨hy1, hy2, hy3, hy4⟩ := lts4 hz2 | obtain ⟨hy1, hy2, hy3⟩ := lts3 hz2 | obtain ⟨hy1, hy2⟩ := lts2 hz2 | have hy1 := lts1 hz2); have hb9 := hb1) | (go_at_call 89; refine (impl_live n.mesh (4 * (b / 10) + p) a1 _ _ (by exact Kd.C_below Rbr bel) L1).mono ?_; rintro e w1 ⟨rfl, hb1⟩; obtain ⟨hc1, hf1, hz1⟩ := bcell hb1; (try simp only [szs] at hz1); have hb2 := far2; obtain ⟨hc2, hf2, hz2⟩ := bcell hb2; (try simp only [szs] at hz2); try (first | obtain ⟨hy1, hy2, hy3, hy4⟩ := lts4 hz2 | obtain ⟨hy1, hy2, hy3⟩ := lts3 hz2 | obtain ⟨hy1, hy2⟩ := lts2 hz2 | have hy1 := lts1 hz2); have hb9 := hb1) | (go_at_call 90; refine (impl_isRequest n _ bx (b / 10) (b % 10) p _ (R.out.below bel) (X.out.below bel) HA.out).mono ?_; rintro e w1 ⟨he, hb1⟩; rw [HQ.out] at he; subst he; obtain ⟨hc1, hf1, hz1⟩ := bcell hb1; (try simp only [szs] at hz1); have hb2 := far2; obtain ⟨hc2, hf2, hz2⟩ := bcell hb2; (try simp only [szs] at hz2); try (first | obtain ⟨hy1, hy2, hy3, hy4⟩ := lts4 hz2 | obtain ⟨hy1, hy2, hy3⟩ := lts3 hz2 | obtain ⟨hy1, hy2⟩ := lts2 hz2 | have hy1 := lts1 hz2); have hb9 := hb1) | (go_at_call 91; refine (impl_hasRoom n _ bx (b / 10) p (b % 2) _ (R.out.below bel) (X.out.below bel) HA.out.ok HA.out.nd p00 (by omega) (by omega) (by omega)).mono ?_; rintro e w1 ⟨he, hb1⟩; rw [HRO.out] at he; subst he; obtain ⟨hc1, hf1, hz1⟩ := bcell hb1; (try simp only [szs] at hz1); have hb2 := far2; obtain ⟨hc2, hf2, hz2⟩ := bcell hb2; (try simp only [szs] at hz2); try (first | obtain ⟨hy1, hy2, hy3, hy4⟩ := lts4 hz2 | obtain ⟨hy1, hy2, hy3⟩ := lts3 hz2 | obtain ⟨hy1, hy2⟩ := lts2 hz2 | have hy1 := lts1 hz2); have hb9 := hb1))
    have HBA : Hid (10 * (b / 10) + 2 * o + b % 2 = waitTo n b) := Lib.hid HT.out.symm
    obtain ⟨t, et⟩ : ∃ t, waitTo n b = t := ⟨_, rfl⟩
    rw [et] at HBA
    have ET := Lib.hid et
    clear et
    obtain ⟨hc9, hf9, hz9⟩ := bcell hb2
    have yb5 : b5 < w1.heap.size := by omega
    have ybx : bx < w1.heap.size := by omega
    have HC1 : ∀ W : World, Calls Tryz.prog 74 #[.int .i64 (b / 10), .int .i64 p, .int .i64 (b % 2)] W fun e w' => e = .returned (.int .i64 (10 * (b / 10) + 2 * p + b % 2)) ∧ w' = W := fun W => Calls.mono (impl_BufferAt (b / 10) p (b % 2) W (by omega) (by omega) (by omega) (by omega) (by omega) (by omega)) (by rintro e w' ⟨rfl, rfl⟩; exact ⟨rfl, rfl⟩)
    have HC2 : ∀ W : World, Calls Tryz.prog 74 #[.int .i64 (b / 10), .int .i64 o, .int .i64 (b % 2)] W fun e w' => e = .returned (.int .i64 t) ∧ w' = W := fun W => Calls.mono (impl_BufferAt (b / 10) o (b % 2) W (by omega) (by omega) (by omega) (by omega) (by omega) (by omega)) (by rintro e w' ⟨rfl, rfl⟩; exact ⟨by rw [HBA.out], rfl⟩)
    have HD1 := Lib.hid HC1
    have HD2 := Lib.hid HC2
    clear HC1 HC2
    have etm : (b % 10).tmod 2 = b % 2 := by rw [Int.tmod_eq_emod_of_nonneg i0]; omega
    refine wp_region_still_tail 17 (by kernel_rfl) (by kernel_rfl) ?_
    simp only [List.take_succ_cons, List.take_zero, List.drop_succ_cons, List.drop_zero]
    repeat (first | still_step | (refine wpStill_step (fun K hK => ?_); go_simp; refine ⟨_, (by with_reducible exact HD1.out _), hK _ ?_⟩; clear hK K) | (refine wpStill_step (fun K hK => ?_); go_simp; refine ⟨_, (by with_reducible exact HD2.out _), hK _ ?_⟩; clear hK K))
    clear etm
    refine wpStill_nil ?_
    go_wp2
    exact bodyPost_ret (v := .tuple #[.agg #[.int .i64 b, .int .i64 t], .bool true]) (by simp [results, Tryz.results61, go_sem, *]) rfl ⟨by rw [WVV_yes HN.out, WV, ET.out], bel⟩
section
variable {ops : Array Oper} {rest : List Oper} {o : Oper} {a : Act} {Q : Exit → Act → World → Prop}
theorem app_W2 {W0 W : World} (hgd : o.guard = none) (s x : Operand)
    (ho : o.op = .call { callee := .builtin .append, args := #[s, x], argTypes := #[55, 55] })
    (v : Value) (xs : List Wait) (q : Wait) (hs : a.eval s = v) (hx : a.eval x = .slice (some ⟨W.heap.size, 0, none⟩) 1 1)
    (HO : kW.R 59 W W0.heap.size (fun _ => True) v xs) (HB : Below W0.heap.size W0 W) (hl : xs.length ≤ 100000000)
    (h : ∀ v1 w1, kW.R 59 w1 W0.heap.size (fun _ => True) v1 (xs ++ [q]) → Below W0.heap.size W0 w1 → wpList Tryz.prog ops Q rest (a.put o.dst v1) w1) :
    wpList Tryz.prog ops Q (o :: rest) a (W.alloc (.cells #[.int .i64 q.a, .int .i64 q.b] 59)) :=
  app_own kW hgd s x 55 59 (.agg #[.int .i64 0, .int .i64 0]) 16 ho Tryz.underlying55 info_W rfl (by decide) (by omega) v xs q (wCells q) hs hx rfl HO HB (by omega) h
end
set_option maxHeartbeats 4000000 in
set_option maxRecDepth 100000 in
theorem impl_WaitsOf (n : Net) (q : NA) (w : World) (hr : NetR 80 w n q) : Calls Tryz.prog 31 #[.agg (netCells n q)] w fun e w' => GotW w w' (waitsN n) e ∧ Below w.heap.size w w' := by
  have R := Lib.hid hr
  obtain ⟨a1, a2, a3, a4, a5, a6, a7, a8, c1, c2, c3, c4, c5, c6, c7, c8⟩ := q
  clear hr
  dsimp only [netCells]
  have X := fun (W : World) hb => Box.below (w1 := W) (Box.new w _ #[.int .i64 n.mesh.g.w, .int .i64 n.mesh.g.h, .slice a1 n.mesh.br.length c1, .slice a2 n.pa.length c2, .slice a3 n.pb.length c3, .slice a4 n.bufs.length c4, .slice a5 n.owners.length c5, .slice a6 n.turns.length c6, .slice a7 n.srcs.length c7, .slice a8 n.arrs.length c8, .int .i64 n.time] 35 rfl) hb
  have HO := R_empty' kW 59 (W0 := w.alloc (.cells #[.int .i64 n.mesh.g.w, .int .i64 n.mesh.g.h, .slice a1 n.mesh.br.length c1, .slice a2 n.pa.length c2, .slice a3 n.pb.length c3, .slice a4 n.bufs.length c4, .slice a5 n.owners.length c5, .slice a6 n.turns.length c6, .slice a7 n.srcs.length c7, .slice a8 n.arrs.length c8, .int .i64 n.time] 35)) (W := w.alloc (.cells #[.int .i64 n.mesh.g.w, .int .i64 n.mesh.g.h, .slice a1 n.mesh.br.length c1, .slice a2 n.pa.length c2, .slice a3 n.pb.length c3, .slice a4 n.bufs.length c4, .slice a5 n.owners.length c5, .slice a6 n.turns.length c6, .slice a7 n.srcs.length c7, .slice a8 n.arrs.length c8, .int .i64 n.time] 35)) (Nat.le_refl _) (w.heap.size + 1) (by simp only [szs])
  cases hk : netOk n
  · have HE : Hid (waitsN n = []) := Lib.hid (by rw [waitsN, if_neg (by simp [hk])])
    go_enter Tryz.func31, Tryz.ntmps31
    go_wp2_with (go_at_call 21; refine (impl_NetOk n _ _ (R.out.below bel)).mono ?_; rintro e w1 ⟨rfl, hb1⟩; obtain ⟨hc1, hf1, hz1⟩ := bcell hb1; (try simp only [szs] at hz1); have hb2 := far2; obtain ⟨hc2, hf2, hz2⟩ := bcell hb2; (try simp only [szs] at hz2); try (first | obtain ⟨hy1, hy2, hy3, hy4⟩ := lts4 hz2 | obtain ⟨hy1, hy2, hy3⟩ := lts3 hz2 | obtain ⟨hy1, hy2⟩ := lts2 hz2 | have hy1 := lts1 hz2); have hb9 := hb1)
    go_ret
    exact ⟨by rw [HE.out]; exact ⟨_, rfl, Kd.R_lower (Kd.R_below HO bel) (by simp only [szs]; omega)⟩, bel⟩
  · have HE : Hid (waitsN n = waitsTo n n.bufs.length) := Lib.hid (by rw [waitsN, if_pos hk])
    have HK := Lib.hid hk
    have b160 := bufs_len hk
    go_enter Tryz.func31, Tryz.ntmps31
    go_wp2_with (go_at_call 21; refine (impl_NetOk n _ _ (R.out.below bel)).mono ?_; rintro e w1 ⟨rfl, hb1⟩; obtain ⟨hc1, hf1, hz1⟩ := bcell hb1; (try simp only [szs] at hz1); have hb2 := far2; obtain ⟨hc2, hf2, hz2⟩ := bcell hb2; (try simp only [szs] at hz2); try (first | obtain ⟨hy1, hy2, hy3, hy4⟩ := lts4 hz2 | obtain ⟨hy1, hy2, hy3⟩ := lts3 hz2 | obtain ⟨hy1, hy2⟩ := lts2 hz2 | have hy1 := lts1 hz2); have hb9 := hb1)
    go_loopw [3, 15] (fun v i wr => ∃ k : Nat, i = .int .i64 k ∧ k ≤ n.bufs.length ∧ kW.R 59 wr (w.alloc (.cells #[.int .i64 n.mesh.g.w, .int .i64 n.mesh.g.h, .slice a1 n.mesh.br.length c1, .slice a2 n.pa.length c2, .slice a3 n.pb.length c3, .slice a4 n.bufs.length c4, .slice a5 n.owners.length c5, .slice a6 n.turns.length c6, .slice a7 n.srcs.length c7, .slice a8 n.arrs.length c8, .int .i64 n.time] 35)).heap.size (fun _ => True) v (waitsTo n k) ∧ Below (w.alloc (.cells #[.int .i64 n.mesh.g.w, .int .i64 n.mesh.g.h, .slice a1 n.mesh.br.length c1, .slice a2 n.pa.length c2, .slice a3 n.pb.length c3, .slice a4 n.bufs.length c4, .slice a5 n.owners.length c5, .slice a6 n.turns.length c6, .slice a7 n.srcs.length c7, .slice a8 n.arrs.length c8, .int .i64 n.time] 35)).heap.size (w.alloc (.cells #[.int .i64 n.mesh.g.w, .int .i64 n.mesh.g.h, .slice a1 n.mesh.br.length c1, .slice a2 n.pa.length c2, .slice a3 n.pb.length c3, .slice a4 n.bufs.length c4, .slice a5 n.owners.length c5, .slice a6 n.turns.length c6, .slice a7 n.srcs.length c7, .slice a8 n.arrs.length c8, .int .i64 n.time] 35)) wr) (fun _ i _ => n.bufs.length - (intOf i).toNat)
    case atStart => exact ⟨0, rfl, Nat.zero_le _, Kd.R_below HO hb1, bw_then (bw_alloc _ (bw_refl _)) hb1⟩
    case round =>
      clear HO hb1 hc1 hf1 hz1 hb2 hc2 hf2 hz2 hb9
      obtain ⟨k, rfl, hk, HO, HB⟩ := hrel
      obtain ⟨Ao, co, rfl⟩ := Kd.R_slice HO
      have hlen := waitsTo_len n k
      obtain ⟨hcr, hfr, hzr⟩ := bcell HB
      simp only [szs] at hzr
      have yy1 := lts1 hzr
      by_cases hlt : k < n.bufs.length
      · have i0 : (k : Int) < (n.bufs.length : Int) := by omega
        cases hw : waitsB n k
        · have HS := Lib.hid (waitsTo_no hw)
          have HW := Lib.hid hw
          clear hw
          go_wp2_with (go_at_call 61; refine (impl_waits n _ _ k _ (R.out.below bel) (X _ bel) HK.out (by omega) i0).mono ?_; rintro e w1 ⟨he, hb1⟩; rw [WVV_no HW.out, WV0] at he; subst he; obtain ⟨hc1, hf1, hz1⟩ := bcell hb1; (try simp only [szs] at hz1); have hb2 := far2; obtain ⟨hc2, hf2, hz2⟩ := bcell hb2; (try simp only [szs] at hz2); try (first | obtain ⟨hy1, hy2, hy3, hy4⟩ := lts4 hz2 | obtain ⟨hy1, hy2, hy3⟩ := lts3 hz2 | obtain ⟨hy1, hy2⟩ := lts2 hz2 | have hy1 := lts1 hz2); have hb9 := hb1)
          go_roundw
          case rel => exact ⟨k + 1, by go_num, by omega, by rw [HS.out]; exact (by exact Kd.R_below HO bel), bel⟩
          case measure => simp [intOf]; omega
        · have HS := Lib.hid (waitsTo_yes hw)
          have HW := Lib.hid hw
          obtain ⟨t, et⟩ : ∃ t, waitTo n k = t := ⟨_, rfl⟩
          rw [et] at HS
          have ET := Lib.hid et
          clear hw et
          go_wp2_with (first | (go_at_call 61; refine (impl_waits n _ _ k _ (R.out.below bel) (X _ bel) HK.out (by omega) i0).mono ?_; rintro e w1 ⟨he, hb1⟩; rw [WVV_yes HW.out, WV, ET.out] at he; subst he; obtain ⟨hc1, hf1, hz1⟩ := bcell hb1; (try simp only [szs] at hz1); have hb2 := far2; obtain ⟨hc2, hf2, hz2⟩ := bcell hb2; (try simp only [szs] at hz2); try (first | obtain ⟨hy1, hy2, hy3, hy4⟩ := lts4 hz2 | obtain ⟨hy1, hy2, hy3⟩ := lts3 hz2 | obtain ⟨hy1, hy2⟩ := lts2 hz2 | have hy1 := lts1 hz2); have hb9 := hb1) | (at_builtin; refine app_W2 (W0 := w.alloc (.cells #[.int .i64 n.mesh.g.w, .int .i64 n.mesh.g.h, .slice a1 n.mesh.br.length c1, .slice a2 n.pa.length c2, .slice a3 n.pb.length c3, .slice a4 n.bufs.length c4, .slice a5 n.owners.length c5, .slice a6 n.turns.length c6, .slice a7 n.srcs.length c7, .slice a8 n.arrs.length c8, .int .i64 n.time] 35)) rfl (.tmp 24) (.tmp 26) rfl _ (waitsTo n k) ⟨k, t⟩ rfl (by first | rfl | exact congrArg (fun z => Value.slice (some ⟨z, 0, none⟩) 1 1) (World.size_alloc _ _).symm) (by exact Kd.R_below HO bel) bel (by omega) ?_; intro v1 w1 HO1 HB1; obtain ⟨hc1, hf1, hz1⟩ := bcell HB1; (try simp only [szs] at hz1); have hb2 := HB1; have hb9 := HB1))
          go_roundw
          case rel => exact ⟨k + 1, by go_num, by omega, by rw [HS.out]; exact (by exact Kd.R_below HO1 bel), bel⟩
          case measure => simp [intOf]; omega
      · have i0 : ¬ (k : Int) < (n.bufs.length : Int) := by omega
        obtain rfl : k = n.bufs.length := by omega
        go_wp2
        go_ret
        exact ⟨by rw [HE.out]; exact ⟨_, rfl, Kd.R_lower (by exact Kd.R_below HO bel) (by simp only [szs]; omega)⟩, bel⟩
end Go.Proofs.YtaihmgbflhbebaaGreat
