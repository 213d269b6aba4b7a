/- Lemmas for laws of this seat, for all inputs: StP Snd SndP New MarkM MarkN NY Idle Run Put. -/
import Derived.Test.YtodbglncccgdbaaQ8
import Derived.Test.YtodbglncccgdbaaQ7
import Derived.Test.YtodbglncccgdbaaQ9
import Derived.Test.YtodbglncccgdbaaQ3
set_option linter.unusedVariables false
set_option linter.unusedSimpArgs false
namespace NoC
def BI (n x : Net) (T : List Int) : Prop := x.bufs.length = n.bufs.length ∧ ∀ i : Nat, i < n.bufs.length → (∀ f ∈ rl x.bufs i, f.cls = ((i % 2 : Nat) : Int) ∧ flitOk n.mesh.g f = true) ∧ (rl x.bufs i).length ≤ 3 ∧ ((i : Int) ∉ T → (rl x.bufs i).length ≤ (rl n.bufs i).length)
theorem bufOk_iff {g : Grid} {i : Nat} {l : List Flit} : bufOk g i l = true ↔ (∀ f ∈ l, f.cls = ((i % 2 : Nat) : Int) ∧ flitOk g f = true) ∧ l.length ≤ 3 := by
  simp only [bufOk, areFl, Bool.and_eq_true, decide_eq_true_eq, List.all_eq_true, beq_iff_eq]
  constructor
  · rintro ⟨⟨h1, h2⟩, h3⟩
    exact ⟨fun f hf => ⟨h2 f hf, h3 f hf⟩, h1⟩
  · rintro ⟨h1, h2⟩
    exact ⟨⟨h2, fun f hf => (h1 f hf).1⟩, fun f hf => (h1 f hf).2⟩
theorem pop_mem (t : Nat) : ∀ (gs : List Grant) (bs : List (List Flit)), ∀ f ∈ rl (popL bs gs) t, f ∈ rl bs t := by
  intro gs
  induction gs with
  | nil => intro bs f hf; exact hf
  | cons g gs ih =>
    intro bs f hf
    have h1 := ih (popB bs g) f hf
    unfold popB at h1
    by_cases e : (gIdx g).toNat = t
    · by_cases h : t < bs.length
      · have e2 : rl (bs.set (gIdx g).toNat ((rl bs (gIdx g)).drop 1)) t = (rl bs (gIdx g)).drop 1 := by simp [rl, List.getD_eq_getElem?_getD, e, h]
        have e3 : rl bs (gIdx g) = rl bs (t : Int) := by simp [rl, e]
        rw [e2, e3] at h1
        exact List.mem_of_mem_drop h1
      · have e2 : rl (bs.set (gIdx g).toNat ((rl bs (gIdx g)).drop 1)) t = [] := by simp [rl, List.getD_eq_getElem?_getD, h]
        rw [e2] at h1
        simp at h1
    · have e2 : rl (bs.set (gIdx g).toNat ((rl bs (gIdx g)).drop 1)) t = rl bs t := by simp [rl, List.getD_eq_getElem?_getD, e]
      rwa [e2] at h1
theorem BI_pop {n : Net} (ok : netOk n = true) : BI n (afterPop n) [] := by
  obtain ⟨_, _, _, _, _, _, hb, _⟩ := netOk_parts ok
  refine ⟨popL_len _ _, fun i hi => ?_⟩
  have h := bufOk_iff.1 (hb i hi)
  have hl := pop_rows i (allGrants n) n.bufs
  exact ⟨fun f hf => h.1 f (pop_mem i _ _ f hf), Nat.le_trans hl h.2, fun _ => hl⟩
theorem BI_add {n x y : Net} {T : List Int} {t : Nat} {f : Flit} (h : BI n x T) (ht : t < n.bufs.length) (hn : (t : Int) ∉ T) (hl : (rl n.bufs (t : Int)).length < 3) (hc : f.cls = ((t % 2 : Nat) : Int)) (hf : flitOk n.mesh.g f = true) (hy : y.bufs = x.bufs.set t (rl x.bufs (t : Int) ++ [f])) : BI n y (T ++ [(t : Int)]) := by
  obtain ⟨h0, h1⟩ := h
  refine ⟨by rw [hy, List.length_set]; exact h0, fun i hi => ?_⟩
  rw [hy]
  by_cases e : t = i
  · subst e
    have e2 : rl (x.bufs.set t (rl x.bufs (t : Int) ++ [f])) (t : Int) = rl x.bufs (t : Int) ++ [f] := by
      have : t < x.bufs.length := by omega
      simp [rl, List.getD_eq_getElem?_getD, this]
    rw [e2]
    obtain ⟨a1, a2, a3⟩ := h1 t hi
    have := a3 hn
    refine ⟨fun z hz => ?_, by rw [List.length_append, List.length_singleton]; omega, fun hh => absurd (by simp) hh⟩
    rcases List.mem_append.1 hz with hz | hz
    · exact a1 z hz
    · rw [List.mem_singleton.1 hz]
      exact ⟨hc, hf⟩
  · have e2 : rl (x.bufs.set t (rl x.bufs (t : Int) ++ [f])) (i : Int) = rl x.bufs (i : Int) := by simp [rl, List.getD_eq_getElem?_getD, e]
    rw [e2]
    obtain ⟨a1, a2, a3⟩ := h1 i hi
    exact ⟨a1, a2, fun hh => a3 (fun hm => hh (List.mem_append_left _ hm))⟩
theorem flit_of {n : Net} (ok : netOk n = true) {g : Grant} (h : GOne n g) : (mvF n g).cls = g.input % 2 ∧ flitOk n.mesh.g (mvF n g) = true := by
  have h1 := (h.at ok).buf0 h.full
  have e : mvF n g = rf (bufOf n g.node g.input) 0 := rfl
  rw [e]
  refine ⟨h1.2, ?_⟩
  unfold flitOk
  rw [h1.1, h1.2]
  have := h.i0
  simp only [Bool.true_and]
  exact inside_iff.2 ⟨by omega, by omega⟩
def tgts (n : Net) (gs : List Grant) : List Int := (gs.filter (fun g => !(g.port == 4))).map (gTo n)
theorem tgts_cons4 {n : Net} {g : Grant} {gs : List Grant} (h : g.port = 4) : tgts n (g :: gs) = tgts n gs := by simp [tgts, h]
theorem tgts_cons {n : Net} {g : Grant} {gs : List Grant} (h : ¬ g.port = 4) : tgts n (g :: gs) = gTo n g :: tgts n gs := by simp [tgts, h]
theorem BI_push {n : Net} (ok : netOk n = true) : ∀ (gs : List Grant) (x : Net) (T : List Int), BI n x T → (∀ g ∈ gs, GOne n g) → (tgts n gs).Nodup → (∀ t ∈ tgts n gs, t ∉ T) → BI n (pushL n x gs) (T ++ tgts n gs) := by
  intro gs
  induction gs with
  | nil => intro x T h _ _ _; simpa [tgts, pushL] using h
  | cons g gs ih =>
    intro x T h hone hnd hT
    show BI n (pushL n (pushG n x g) gs) _
    have hg := hone g (by simp)
    by_cases h4 : g.port = 4
    · rw [tgts_cons4 h4] at hnd hT ⊢
      refine ih _ _ ⟨by rw [pushG_len]; exact h.1, fun i hi => ?_⟩ (fun y hy => hone y (by simp [hy])) hnd hT
      rw [pushG_bufs, if_pos h4]
      exact h.2 i hi
    · rw [tgts_cons h4] at hnd hT ⊢
      obtain ⟨t0, t1, _, q1, q2, q3, te⟩ := hg.to ok h4
      obtain ⟨t, ht⟩ : ∃ t : Nat, gTo n g = (t : Int) := ⟨(gTo n g).toNat, by omega⟩
      have hf := flit_of ok hg
      have hroom := (hg.live h4).2
      have hi0 := hg.i0
      rw [List.nodup_cons] at hnd
      rw [ht] at t1 te hroom hnd hT ⊢
      have hb := BI_add (y := pushG n x g) (t := t) (f := mvF n g) h (by omega) (hT t (by simp)) hroom (by rw [hf.1]; omega) hf.2 (by rw [pushG_bufs, if_neg h4]; unfold addB; rw [ht, Int.toNat_natCast])
      have := ih _ _ hb (fun y hy => hone y (by simp [hy])) hnd.2 (fun z hz hm => by
        rcases List.mem_append.1 hm with hm | hm
        · exact hT z (by simp [hz]) hm
        · rw [List.mem_singleton.1 hm] at hz
          exact hnd.1 hz)
      rw [List.append_assoc] at this
      exact this
theorem tgts_nodup {n : Net} (ok : netOk n = true) : (tgts n (allGrants n)).Nodup := by
  unfold tgts List.Nodup
  rw [List.pairwise_map]
  refine (List.Pairwise.sublist (List.filter_sublist) (grants_pw n)).imp_of_mem (fun {a b} ha hb hab => ?_)
  have ha1 := List.mem_filter.1 ha
  have hb1 := List.mem_filter.1 hb
  have a4 : ¬ a.port = 4 := by simpa using ha1.2
  have b4 : ¬ b.port = 4 := by simpa using hb1.2
  intro e
  have h := gTo_inj ok (grants_one ha1.1) (grants_one hb1.1) a4 b4 e
  rcases hab with h1 | ⟨h1, h2, _⟩
  · rw [h.1] at h1; exact absurd h1 (Int.lt_irrefl _)
  · rw [h.2] at h2; exact absurd h2 (Int.lt_irrefl _)
theorem BI_afterPush {n : Net} (ok : netOk n = true) : BI n (afterPush n) (tgts n (allGrants n)) := by
  have := BI_push ok (allGrants n) (afterPop n) [] (BI_pop ok) (fun g hg => grants_one hg) (tgts_nodup ok) (fun _ _ => by simp)
  rw [List.nil_append] at this
  exact this
theorem tgts_mod {n : Net} (ok : netOk n = true) : ∀ t ∈ tgts n (allGrants n), t % 10 ≤ 7 := by
  intro t ht
  unfold tgts at ht
  obtain ⟨g, hg, rfl⟩ := List.mem_map.1 ht
  have hg1 := List.mem_filter.1 hg
  have h4 : ¬ g.port = 4 := by simpa using hg1.2
  have h := grants_one hg1.1
  obtain ⟨t0, t1, _, q1, q2, q3, te⟩ := h.to ok h4
  have := h.i0
  omega
theorem BI_enter {n : Net} (ok : netOk n = true) : ∀ (ks : List Int) (x : Net) (T : List Int), BI n x T → (∀ a ∈ ks, ∃ i : Nat, a = (i : Int) ∧ i < n.srcs.length ∧ enters n i = true) → ks.Pairwise (· < ·) → (∀ a ∈ ks, eTo n a ∉ T) → ∃ T', BI n (enterL n x ks) T' := by
  intro ks
  induction ks with
  | nil => intro x T h _ _ _; exact ⟨T, h⟩
  | cons a ks ih =>
    intro x T h hk hp hT
    obtain ⟨i, rfl, hi, he⟩ := hk a (by simp)
    rw [List.pairwise_cons] at hp
    simp only [enters, Bool.and_eq_true, decide_eq_true_eq] at he
    obtain ⟨_, _, _, hcl⟩ := src_buf ok i hi
    obtain ⟨d0, d1, d2⟩ := hcl he.1
    obtain ⟨t, ht⟩ : ∃ t : Nat, eTo n (i : Int) = (t : Int) := ⟨(eTo n (i : Int)).toNat, by unfold eTo; omega⟩
    have ht' : 10 * (i : Int) + 8 + (rf (rl n.srcs (i : Int)) 0).cls = (t : Int) := ht
    have hb := BI_add (y := enterB n x (i : Int)) (t := t) (f := rf (rl n.srcs (i : Int)) 0) h (by omega) (by rw [← ht]; exact hT _ (by simp)) (by rw [← ht']; exact he.2) (by omega) (by
      obtain ⟨_, _, _, _, _, _, _, hs, _⟩ := netOk_parts ok
      have h1 := hs i hi
      simp only [srcOk, Bool.and_eq_true, decide_eq_true_eq] at h1
      have h2 := areFl_get h1.2 0 he.1
      unfold flitOk
      rw [show ((0 : Nat) : Int) = 0 from rfl] at h2
      rw [h2.1, h2.2]; rfl) (by show x.bufs.set (eTo n (i : Int)).toNat (rl x.bufs (eTo n (i : Int)) ++ [_]) = _; rw [ht, Int.toNat_natCast])
    refine ih _ _ hb (fun y hy => hk y (by simp [hy])) hp.2 (fun y hy hm => ?_)
    rcases List.mem_append.1 hm with hm | hm
    · exact hT y (by simp [hy]) hm
    · have e := List.mem_singleton.1 hm
      obtain ⟨j, rfl, hj, hej⟩ := hk y (by simp [hy])
      have hlt := hp.1 (j : Int) hy
      simp only [enters, Bool.and_eq_true, decide_eq_true_eq] at hej
      obtain ⟨_, _, _, hclj⟩ := src_buf ok j hj
      obtain ⟨b0, b1, b2⟩ := hclj hej.1
      rw [← ht'] at e
      unfold eTo at e
      omega
theorem step_bufs {n : Net} (ok : netOk n = true) : ∀ i : Nat, i < n.bufs.length → bufOk n.mesh.g i (rl (stepN n).bufs i) = true := by
  obtain ⟨T', h⟩ := BI_enter ok (enteringN n) (afterPush n) _ (BI_afterPush ok) (enterTo_spec n n.srcs.length).1 (enterTo_spec n n.srcs.length).2 (fun a ha hm => by
    have h7 := tgts_mod ok _ hm
    obtain ⟨i, rfl, hi, he⟩ := (enterTo_spec n n.srcs.length).1 a ha
    simp only [enters, Bool.and_eq_true, decide_eq_true_eq] at he
    obtain ⟨_, _, _, hcl⟩ := src_buf ok i hi
    obtain ⟨d0, d1, d2⟩ := hcl he.1
    unfold eTo at h7
    omega)
  intro i hi
  have := h.2 i hi
  exact bufOk_iff.2 ⟨this.1, this.2.1⟩
theorem ri_set (l : List Int) (k : Nat) (v : Int) (i : Nat) : ri (l.set k v) i = if k = i ∧ i < l.length then v else ri l i := by
  by_cases e : k = i
  · subst e
    by_cases h : k < l.length
    · simp [ri, List.getD_eq_getElem?_getD, h]
    · simp [ri, List.getD_eq_getElem?_getD, h]
  · simp [ri, List.getD_eq_getElem?_getD, e]
theorem push_ints {n : Net} (ok : netOk n = true) : ∀ (gs : List Grant) (x : Net), (∀ g ∈ gs, GOne n g) → ∀ i : Nat, ((-1 ≤ ri x.owners i ∧ ri x.owners i ≤ 4) → (-1 ≤ ri (pushL n x gs).owners i ∧ ri (pushL n x gs).owners i ≤ 4)) ∧ ((0 ≤ ri x.turns i ∧ ri x.turns i ≤ 9) → (0 ≤ ri (pushL n x gs).turns i ∧ ri (pushL n x gs).turns i ≤ 9)) := by
  intro gs
  induction gs with
  | nil => intro x _ i; exact ⟨id, id⟩
  | cons g gs ih =>
    intro x hone i
    have hg := hone g (by simp)
    have h0 := hg.i0
    have h9 := hg.i9
    have ho : (pushG n x g).owners = x.owners.set (gAt g).toNat (gOwn n g) := by unfold pushG; split <;> rfl
    have ht : (pushG n x g).turns = x.turns.set (gTurn g).toNat ((g.input + 1) % 10) := by unfold pushG; split <;> rfl
    have hw : -1 ≤ gOwn n g ∧ gOwn n g ≤ 4 := by unfold gOwn; split <;> omega
    obtain ⟨i1, i2⟩ := ih (pushG n x g) (fun y hy => hone y (by simp [hy])) i
    refine ⟨fun h => i1 ?_, fun h => i2 ?_⟩
    · rw [ho, ri_set]
      split
      · exact hw
      · exact h
    · rw [ht, ri_set]
      split
      · omega
      · exact h
theorem enter_rows (n : Net) (t : Nat) : ∀ (ks : List Int) (x : Net), (∀ f ∈ rl (enterL n x ks).srcs t, f ∈ rl x.srcs t) ∧ (rl (enterL n x ks).srcs t).length ≤ (rl x.srcs t).length := by
  intro ks
  induction ks with
  | nil => intro x; exact ⟨fun f h => h, Nat.le_refl _⟩
  | cons a ks ih =>
    intro x
    obtain ⟨h1, h2⟩ := ih (enterB n x a)
    have core : (∀ f ∈ rl (enterB n x a).srcs t, f ∈ rl x.srcs t) ∧ (rl (enterB n x a).srcs t).length ≤ (rl x.srcs t).length := by
      show (∀ f ∈ rl (x.srcs.set a.toNat ((rl x.srcs a).drop 1)) t, f ∈ rl x.srcs t) ∧ (rl (x.srcs.set a.toNat ((rl x.srcs a).drop 1)) t).length ≤ (rl x.srcs t).length
      by_cases e : a.toNat = t
      · by_cases h : t < x.srcs.length
        · have e2 : rl (x.srcs.set a.toNat ((rl x.srcs a).drop 1)) t = (rl x.srcs a).drop 1 := by simp [rl, List.getD_eq_getElem?_getD, e, h]
          have e3 : rl x.srcs a = rl x.srcs (t : Int) := by simp [rl, e]
          rw [e2, e3]
          exact ⟨fun f hf => List.mem_of_mem_drop hf, by rw [List.length_drop]; omega⟩
        · have e2 : rl (x.srcs.set a.toNat ((rl x.srcs a).drop 1)) t = [] := by simp [rl, List.getD_eq_getElem?_getD, h]
          rw [e2]
          exact ⟨fun f hf => by simp at hf, by simp⟩
      · have e2 : rl (x.srcs.set a.toNat ((rl x.srcs a).drop 1)) t = rl x.srcs t := by simp [rl, List.getD_eq_getElem?_getD, e]
        rw [e2]
        exact ⟨fun f hf => hf, Nat.le_refl _⟩
    exact ⟨fun f hf => core.1 f (h1 f hf), Nat.le_trans h2 core.2⟩
theorem step_parts (n : Net) : (stepN n).mesh = n.mesh ∧ (stepN n).pa = n.pa ∧ (stepN n).pb = n.pb ∧ (stepN n).owners = (afterPush n).owners ∧ (stepN n).turns = (afterPush n).turns ∧ (stepN n).arrs = (afterPush n).arrs := by
  have h1 := enterL_time n (enteringN n) (afterPush n)
  have h2 := pushL_same n (allGrants n) (afterPop n)
  exact ⟨h1.2.1.trans h2.2.1, h1.2.2.1.trans h2.2.2.1, h1.2.2.2.1.trans h2.2.2.2, h1.2.2.2.2.1, h1.2.2.2.2.2.1, h1.2.2.2.2.2.2⟩
theorem push_lens (n : Net) : ∀ (gs : List Grant) (x : Net), (pushL n x gs).bufs.length = x.bufs.length ∧ (pushL n x gs).owners.length = x.owners.length ∧ (pushL n x gs).turns.length = x.turns.length ∧ (pushL n x gs).arrs.length = x.arrs.length := by
  intro gs
  induction gs with
  | nil => intro x; exact ⟨rfl, rfl, rfl, rfl⟩
  | cons g gs ih =>
    intro x
    obtain ⟨h1, h2, h3, h4⟩ := ih (pushG n x g)
    have e : (pushG n x g).bufs.length = x.bufs.length ∧ (pushG n x g).owners.length = x.owners.length ∧ (pushG n x g).turns.length = x.turns.length ∧ (pushG n x g).arrs.length = x.arrs.length := by unfold pushG; split <;> simp
    exact ⟨h1.trans e.1, h2.trans e.2.1, h3.trans e.2.2.1, h4.trans e.2.2.2⟩
theorem enter_lens (n : Net) : ∀ (ks : List Int) (x : Net), (enterL n x ks).bufs.length = x.bufs.length ∧ (enterL n x ks).srcs.length = x.srcs.length := by
  intro ks
  induction ks with
  | nil => intro x; exact ⟨rfl, rfl⟩
  | cons a ks ih =>
    intro x
    obtain ⟨h1, h2⟩ := ih (enterB n x a)
    exact ⟨h1.trans (by simp [enterB]), h2.trans (by simp [enterB])⟩
theorem step_ok {n : Net} (ok : netOk n = true) (ht : n.time < 1000000) : netOk (stepN n) = true := by
  obtain ⟨c, s1, s2, s3, s4, s5, hb, hs, ho, hu, hm⟩ := netOk_parts ok
  obtain ⟨e1, e2, e3, e4, e5, e6⟩ := step_parts n
  obtain ⟨p1, p2, p3, p4⟩ := push_lens n (allGrants n) (afterPop n)
  obtain ⟨l1, l2⟩ := enter_lens n (enteringN n) (afterPush n)
  have b1 : (stepN n).bufs.length = n.bufs.length := by
    show (enterL n (afterPush n) (enteringN n)).bufs.length = _
    rw [l1]
    exact p1.trans (popL_len _ _)
  have b2 : (stepN n).owners.length = n.owners.length := by rw [e4]; exact p2
  have b3 : (stepN n).turns.length = n.turns.length := by rw [e5]; exact p3
  have b4 : (stepN n).srcs.length = n.srcs.length := by
    show (enterL n (afterPush n) (enteringN n)).srcs.length = _
    rw [l2]
    unfold afterPush
    rw [pushL_srcs]
    rfl
  have b5 : (stepN n).arrs.length = n.arrs.length := by rw [e6]; exact p4
  rw [inside_iff] at hm
  simp only [netOk, shapeOk, Bool.and_eq_true, decide_eq_true_eq, allI_iff]
  rw [e1, e2, e3, b1, b2, b3, b4, b5]
  refine ⟨⟨⟨⟨⟨⟨c, ⟨⟨⟨⟨s1, s2⟩, s3⟩, s4⟩, s5⟩⟩, step_bufs ok⟩, fun i hi => ?_⟩, fun i hi => ?_⟩, fun i hi => ?_⟩, ?_⟩
  · have h1 := hs i hi
    simp only [srcOk, areFl, Bool.and_eq_true, decide_eq_true_eq, List.all_eq_true] at h1 ⊢
    obtain ⟨r1, r2⟩ := enter_rows n i (enteringN n) (afterPush n)
    have e : (afterPush n).srcs = n.srcs := by unfold afterPush; rw [pushL_srcs]; rfl
    rw [e] at r1 r2
    exact ⟨Nat.le_trans r2 h1.1, fun f hf => h1.2 f (r1 f hf)⟩
  · have h1 := inside_iff.1 (ho i hi)
    rw [e4]
    exact inside_iff.2 ((push_ints ok (allGrants n) (afterPop n) (fun g hg => grants_one hg) i).1 h1)
  · have h1 := inside_iff.1 (hu i hi)
    rw [e5]
    exact inside_iff.2 ((push_ints ok (allGrants n) (afterPop n) (fun g hg => grants_one hg) i).2 h1)
  · have e : (stepN n).time = n.time + 1 := rfl
    rw [e, inside_iff]
    omega
end NoC
namespace Go.Proofs.Ytodbglncccgdbaa
open Go.RowKit Go.Proofs.YtodbglncccgdbaaW.PrintWords
open NoC
def flitAt (p : Packet) (k : Nat) : Flit := ⟨p.id, p.dst, p.cls, (k : Int) == 0, (k : Int) == p.len - 1⟩
def flitsTo (p : Packet) (k : Nat) : List Flit := (List.range k).map (flitAt p)
theorem flitsTo_succ (p : Packet) (k : Nat) : flitsTo p (k + 1) = flitsTo p k ++ [flitAt p k] := by simp [flitsTo, List.range_succ]
theorem flitsTo_len (p : Packet) (k : Nat) : (flitsTo p k).length = k := by simp [flitsTo]
theorem flitsOf_yes {g : Grid} {p : Packet} (h : packetOk g p = true) : flitsOf g p = flitsTo p p.len.toNat := by
  unfold flitsOf flitsTo
  rw [if_pos h]
  apply List.map_congr_left
  intro i _
  have e : (i == 0) = ((i : Int) == 0) := by
    by_cases h0 : i = 0
    · subst h0; rfl
    · rw [beq_eq_false_iff_ne.2 h0, beq_eq_false_iff_ne.2 (by omega)]
  unfold flitAt
  rw [e]
theorem flitsOf_no {g : Grid} {p : Packet} (h : packetOk g p = false) : flitsOf g p = [] := by
  unfold flitsOf
  rw [if_neg (by simp [h])]
theorem packet_parts {g : Grid} {p : Packet} (h : packetOk g p = true) : isNode g p.src = true ∧ isNode g p.dst = true ∧ 0 ≤ p.cls ∧ p.cls ≤ 1 ∧ 1 ≤ p.len ∧ p.len ≤ 5 := by
  simp only [packetOk, Bool.and_eq_true] at h
  have h1 := inside_iff.1 h.1.2
  have h2 := inside_iff.1 h.2
  exact ⟨h.1.1.1.1.2, h.1.1.1.2, h1.1, h1.2, h2.1, h2.2⟩
theorem flitsOf_len {g : Grid} {p : Packet} (h : packetOk g p = true) : ((flitsOf g p).length : Int) = p.len := by
  rw [flitsOf_yes h, flitsTo_len]
  have := packet_parts h
  omega
set_option maxHeartbeats 4000000 in
theorem impl_FlitsOf (g : Grid) (p : Packet) (w : World) : Calls Try.prog 64 #[.agg #[.int .i64 g.w, .int .i64 g.h], .agg #[.int .i64 p.id, .int .i64 p.src, .int .i64 p.dst, .int .i64 p.cls, .int .i64 p.len]] w fun e w' => GotF w w' (flitsOf g p) e ∧ Below w.heap.size w w' := by
  cases hk : packetOk g p
  · have HE := Lib.hid (flitsOf_no hk)
    rw [HE.out]
    have HL0 : Hid (kF.R 102 (((w.alloc (.cells #[.int .i64 g.w, .int .i64 g.h] 25)).alloc (.cells #[.int .i64 p.id, .int .i64 p.src, .int .i64 p.dst, .int .i64 p.cls, .int .i64 p.len] 48)).alloc (.cells #[] 102)) w.heap.size (fun _ => True) (.slice (some ⟨w.heap.size + 1 + 1, 0, none⟩) 0 0) []) := Lib.hid (R_lit kF (lit_new (by simp only [szs])) (by omega))
    go_enter Try.func64, Try.ntmps64
    go_wp2_with (go_at_call 41; refine (impl_PacketOk g p _).mono ?_; rintro e w1 ⟨he, hb1⟩; rw [hk] at he; subst he; obtain ⟨hc1, hf1, hz1⟩ := bcell hb1; (try simp only [szs] at hz1); have hb2 := far2; obtain ⟨hc2, hf2, hz2⟩ := bcell hb2; (try simp only [szs] at hz2); try (first | obtain ⟨hy1, hy2, hy3, hy4⟩ := lts4 hz2 | obtain ⟨hy1, hy2, hy3⟩ := lts3 hz2 | obtain ⟨hy1, hy2⟩ := lts2 hz2 | have hy1 := lts1 hz2); have hb9 := hb1)
    go_ret
    exact ⟨⟨_, rfl, Kd.R_below HL0.out hb1⟩, bel⟩
  · have HE := Lib.hid (flitsOf_yes hk)
    obtain ⟨_, _, _, _, n1, n5⟩ := packet_parts hk
    rw [HE.out]
    obtain ⟨N, hN⟩ : ∃ N : Nat, p.len = (N : Int) := ⟨p.len.toNat, by omega⟩
    have HN : Hid (p.len.toNat = N) := Lib.hid (by rw [hN]; exact Int.toNat_natCast N)
    have HLN := Lib.hid hN
    have N5 : N ≤ 5 := by omega
    clear hN
    rw [HN.out]
    have XP : Hid (Box (((w.alloc (.cells #[.int .i64 g.w, .int .i64 g.h] 25)).alloc (.cells #[.int .i64 p.id, .int .i64 p.src, .int .i64 p.dst, .int .i64 p.cls, .int .i64 p.len] 48)).alloc (.cells #[] 102)) (w.heap.size + 1) #[.int .i64 p.id, .int .i64 p.src, .int .i64 p.dst, .int .i64 p.cls, .int .i64 p.len]) := Lib.hid ((Box.new _ _ _ _ (by simp only [szs])).alloc _)
    go_enter Try.func64, Try.ntmps64
    go_wp2_with fail
    refine (impl_PacketOk g p _).mono ?_
    rintro e w1 ⟨he, hb1⟩
    rw [hk] at he
    subst he
    have HB1 : Hid (Below w.heap.size w w1) := Lib.hid bel
    have HR1 : Hid (kF.R 102 w1 (w.heap.size + 2) (fun _ => True) (.slice (some ⟨w.heap.size + 2, 0, none⟩) 0 0) []) := Lib.hid (Kd.R_below (R_lit kF (lit_new (by simp only [szs])) (Nat.le_refl _)) hb1)
    have HX1 := Lib.hid (XP.out.below hb1)
    have x4 : w1.cell? ⟨w.heap.size + 1, 4, none⟩ = some (.int .i64 p.len) := HX1.out.get 4
    have xl := HX1.out.lt
    clear hb1 XP hk
    go_wp2_with fail
    go_loopw [5, 15] (fun v i wr => ∃ k : Nat, i = .int .i64 k ∧ k ≤ N ∧ Hid (kF.R 102 wr (w.heap.size + 2) (fun _ => True) v (flitsTo p k)) ∧ Hid (Box wr (w.heap.size + 1) #[.int .i64 p.id, .int .i64 p.src, .int .i64 p.dst, .int .i64 p.cls, .int .i64 p.len]) ∧ Hid (Below w.heap.size w wr)) (fun _ i _ => N - (intOf i).toNat)
    case atStart => exact ⟨0, rfl, Nat.zero_le _, Lib.hid HR1.out, Lib.hid HX1.out, Lib.hid HB1.out⟩
    case round =>
      clear HR1 HX1 HB1 x4 xl
      obtain ⟨k, rfl, hk, HO, HX, HB⟩ := hrel
      obtain ⟨wk, ewk⟩ : ∃ z, z = wr := ⟨_, rfl⟩
      subst ewk
      have xl := HX.out.lt
      have ll := flitsTo_len p k
      have hL : (flitsTo p k).length ≤ 100 := by omega
      obtain ⟨L, eL⟩ : ∃ L, flitsTo p k = L := ⟨_, rfl⟩
      have HS : Hid (flitsTo p (k + 1) = L ++ [flitAt p k]) := Lib.hid (by rw [flitsTo_succ, eL])
      have HL : Hid (flitsTo p k = L) := Lib.hid eL
      rw [eL] at HO hL
      clear ll eL
      obtain ⟨Av, cv, rfl⟩ := Kd.R_slice HO.out
      have x0 : wk.cell? ⟨w.heap.size + 1, 0, none⟩ = some (.int .i64 p.id) := HX.out.get 0
      have x2 : wk.cell? ⟨w.heap.size + 1, 2, none⟩ = some (.int .i64 p.dst) := HX.out.get 2
      have x3 : wk.cell? ⟨w.heap.size + 1, 3, none⟩ = some (.int .i64 p.cls) := HX.out.get 3
      have x4 : wk.cell? ⟨w.heap.size + 1, 4, none⟩ = some (.int .i64 p.len) := HX.out.get 4
      have zk := HB.out.size
      by_cases hlt : k < N
      · have hk1 : (k : Int) < p.len := by have := HLN.out; omega
        have k0 : (0 : Int) ≤ (k : Int) := by omega
        have hB2 : w.heap.size + 2 ≤ wk.heap.size := by omega
        go_wp2_with (at_builtin; refine app_Fg (B := w.heap.size + 2) rfl (.tmp 18) (.tmp 33) rfl _ L (flitAt p k) rfl (by first | rfl | exact congrArg (fun z => Value.slice (some ⟨z, 0, none⟩) 1 1) (World.size_alloc _ _).symm) HO.out hB2 (by omega) ?_; intro v1 w3 HO1 hg1 ha1)
        go_roundw
        case rel => exact ⟨k + 1, by go_num, by omega, Lib.hid (by rw [HS.out]; exact HO1), Lib.hid (HX.out.grown hg1 (fun e => by have := Kd.R_base HO.out _ e.symm; omega)), Lib.hid (HB.out.grown hg1 HB.out.size (fun i hi => by have := Kd.R_base HO.out i hi; omega))⟩
        case measure => simp [intOf]; omega
      · obtain rfl : k = N := by omega
        have hk1 : ¬ (k : Int) < p.len := by have := HLN.out; omega
        have h9 : kF.R 102 wk (w.heap.size + 2) (fun _ => True) (.slice Av L.length cv) (flitsTo p k) := by rw [HL.out]; exact HO.out
        go_wp2
        go_ret
        exact ⟨⟨_, rfl, Kd.R_lower h9 (by omega)⟩, HB.out⟩
end Go.Proofs.Ytodbglncccgdbaa
namespace Go.Proofs.Ytodbglncccgdbaa
open NoC
def sendOk (n : Net) (p : Packet) : Bool := packetOk n.mesh.g p && decide (((rl n.srcs p.src).length : Int) + p.len ≤ 60)
def sendN (n : Net) (p : Packet) : Net := { n with srcs := n.srcs.set p.src.toNat (rl n.srcs p.src ++ flitsOf n.mesh.g p) }
def sndN (n : Net) (p : Packet) : Net := if sendOk n p = true then sendN n p else n
theorem flits_ok {g : Grid} {p : Packet} (h : packetOk g p = true) : areFl g (flitsOf g p) = true := by
  obtain ⟨_, h2, h3, h4, _, _⟩ := packet_parts h
  rw [flitsOf_yes h]
  unfold areFl flitsTo
  rw [List.all_eq_true]
  intro f hf
  obtain ⟨i, _, rfl⟩ := List.mem_map.1 hf
  simp only [flitOk, flitAt, Bool.and_eq_true]
  exact ⟨h2, inside_iff.2 ⟨h3, h4⟩⟩
theorem sendN_ok {n : Net} {p : Packet} (ok : netOk n = true) (h : sendOk n p = true) : netOk (sendN n p) = true := by
  obtain ⟨c, s1, s2, s3, s4, s5, hb, hs, ho, hu, hm⟩ := netOk_parts ok
  simp only [sendOk, Bool.and_eq_true, decide_eq_true_eq] at h
  obtain ⟨hp, hl⟩ := h
  have hfl := flitsOf_len hp
  rw [inside_iff] at hm
  simp only [netOk, shapeOk, Bool.and_eq_true, decide_eq_true_eq, allI_iff]
  have el : (sendN n p).srcs.length = n.srcs.length := by simp [sendN]
  rw [el]
  refine ⟨⟨⟨⟨⟨⟨c, ⟨⟨⟨⟨s1, s2⟩, s3⟩, s4⟩, s5⟩⟩, hb⟩, fun i hi => ?_⟩, fun i hi => ho i hi⟩, fun i hi => hu i hi⟩, inside_iff.2 hm⟩
  have h1 := hs i hi
  have nd := isNode_iff.1 (packet_parts hp).1
  show srcOk n.mesh.g (rl (n.srcs.set p.src.toNat (rl n.srcs p.src ++ flitsOf n.mesh.g p)) i) = true
  by_cases e : p.src.toNat = i
  · have e2 : rl (n.srcs.set p.src.toNat (rl n.srcs p.src ++ flitsOf n.mesh.g p)) i = rl n.srcs p.src ++ flitsOf n.mesh.g p := by
      simp [rl, List.getD_eq_getElem?_getD, e, hi]
    have e3 : rl n.srcs p.src = rl n.srcs (i : Int) := by unfold rl; rw [e, Int.toNat_natCast]
    rw [e2, e3]
    rw [e3] at hl
    simp only [srcOk, areFl, Bool.and_eq_true, decide_eq_true_eq, List.all_append] at h1 ⊢
    have h2 := flits_ok hp
    unfold areFl at h2
    refine ⟨?_, h1.2, h2⟩
    rw [List.length_append]
    omega
  · have e2 : rl (n.srcs.set p.src.toNat (rl n.srcs p.src ++ flitsOf n.mesh.g p)) i = rl n.srcs i := by
      simp [rl, List.getD_eq_getElem?_getD, e]
    rw [e2]
    exact h1
theorem sndN_ok {n : Net} {p : Packet} (ok : netOk n = true) : netOk (sndN n p) = true := by
  unfold sndN
  split
  · rename_i h; exact sendN_ok ok h
  · exact ok
theorem sndN_nb {n : Net} {p : Packet} (nb : NB n) (ok : netOk n = true) : NB (sndN n p) := by
  unfold sndN
  split
  · rename_i h
    obtain ⟨_, _, _, _, _, _, _, hs, _⟩ := netOk_parts (sendN_ok ok h)
    refine ⟨nb.h1, nb.h2, nb.h3, nb.h4, nb.h5, nb.h6, by show (n.srcs.set _ _).length ≤ _; rw [List.length_set]; exact nb.h7, nb.h8, nb.h9, fun x hx => ?_, nb.h11⟩
    obtain ⟨i, hi, e⟩ : ∃ i : Nat, i < (sendN n p).srcs.length ∧ rl (sendN n p).srcs i = x := by
      obtain ⟨i, hi, rfl⟩ := List.getElem_of_mem hx
      exact ⟨i, hi, by simp [rl, List.getD_eq_getElem?_getD, hi]⟩
    have h1 := hs i hi
    rw [e] at h1
    simp only [srcOk, Bool.and_eq_true, decide_eq_true_eq] at h1
    omega
  · exact nb
def sndTo (n : Net) (l : List Packet) : Nat → Net
  | 0 => n
  | k + 1 => sndN (sndTo n l k) (rp l k)
def cntTo (n : Net) (l : List Packet) : Nat → Int
  | 0 => 0
  | k + 1 => cntTo n l k + (if sendOk (sndTo n l k) (rp l k) = true then 1 else 0)
theorem sndTo_ok {n : Net} (ok : netOk n = true) (l : List Packet) : ∀ k, netOk (sndTo n l k) = true := by
  intro k
  induction k with
  | zero => exact ok
  | succ k ih => exact sndN_ok ih
theorem sndTo_nb {n : Net} (nb : NB n) (ok : netOk n = true) (l : List Packet) : ∀ k, NB (sndTo n l k) := by
  intro k
  induction k with
  | zero => exact nb
  | succ k ih => exact sndN_nb ih (sndTo_ok ok l k)
theorem cntTo_range (n : Net) (l : List Packet) : ∀ k : Nat, 0 ≤ cntTo n l k ∧ cntTo n l k ≤ (k : Int) := by
  intro k
  induction k with
  | zero => simp [cntTo]
  | succ k ih =>
    simp only [cntTo]
    split <;> omega
def canAll (n : Net) (l : List Packet) : Bool := netOk n && decide (l.length ≤ 40)
def sendAllN (n : Net) (l : List Packet) : Net := if canAll n l = true then sndTo n l l.length else n
def sendAllK (n : Net) (l : List Packet) : Int := if canAll n l = true then cntTo n l l.length else -1
theorem sendAll_nb {n : Net} {l : List Packet} (nb : NB n) : NB (sendAllN n l) := by
  unfold sendAllN
  split
  · rename_i h
    simp only [canAll, Bool.and_eq_true] at h
    exact sndTo_nb nb h.1 l _
  · exact nb
def newN (m : Mesh) (pa pb : List Int) : Net :=
  { mesh := m, pa := pa, pb := pb, bufs := List.replicate (10 * (nodeCount m.g).toNat) [], owners := List.replicate (10 * (nodeCount m.g).toNat) (-1), turns := List.replicate (5 * (nodeCount m.g).toNat) 0, srcs := List.replicate (nodeCount m.g).toNat [], arrs := List.replicate (nodeCount m.g).toNat [], time := 0 }
def zeroN : Net := ⟨⟨⟨0, 0⟩, []⟩, [], [], [], [], [], [], [], 0⟩
def netNewN (m : Mesh) (pa pb : List Int) : Net := if classesOk m pa pb = true then newN m pa pb else zeroN
theorem rl_replicate (k : Nat) (i : Int) : rl (List.replicate k []) i = [] := by
  unfold rl
  rw [List.getD_eq_getElem?_getD, List.getElem?_replicate]
  split <;> rfl
theorem ri_rep {k : Nat} {v : Int} {i : Nat} (h : i < k) : ri (List.replicate k v) (i : Int) = v := by
  rw [ri_get _ i (by simpa using h)]
  simp
theorem newN_ok {m : Mesh} {pa pb : List Int} (h : classesOk m pa pb = true) : netOk (newN m pa pb) = true := by
  have hc := count_nat m.g
  have e1 : ∀ i : Nat, rl (newN m pa pb).bufs i = [] := fun i => rl_replicate _ _
  have e2 : ∀ i : Nat, rl (newN m pa pb).srcs i = [] := fun i => rl_replicate _ _
  simp only [netOk, shapeOk, Bool.and_eq_true, decide_eq_true_eq, allI_iff]
  refine ⟨⟨⟨⟨⟨⟨h, ⟨⟨⟨⟨?_, ?_⟩, ?_⟩, ?_⟩, ?_⟩⟩, fun i hi => ?_⟩, fun i hi => ?_⟩, fun i hi => ?_⟩, fun i hi => ?_⟩, ?_⟩
  · simp only [newN, List.length_replicate]; push_cast; omega
  · simp only [newN, List.length_replicate]; push_cast; omega
  · simp only [newN, List.length_replicate]; push_cast; omega
  · simp only [newN, List.length_replicate]; omega
  · simp only [newN, List.length_replicate]; omega
  · rw [e1]; rfl
  · rw [e2]; rfl
  · have : ri (newN m pa pb).owners i = -1 := ri_rep (by simpa [newN] using hi)
    rw [this]; rfl
  · have : ri (newN m pa pb).turns i = 0 := ri_rep (by simpa [newN] using hi)
    rw [this]; rfl
  · rfl
theorem newN_nb {m : Mesh} {pa pb : List Int} (h1 : m.br.length ≤ 2097152) (h2 : pa.length ≤ 2097152) (h3 : pb.length ≤ 2097152) : NB (newN m pa pb) := by
  have hc := count_le m.g
  have hr : ∀ k : Nat, ∀ x ∈ (List.replicate k ([] : List Flit)), x.length ≤ 2097152 := fun k x hx => by rw [(List.mem_replicate.1 hx).2]; simp
  refine ⟨h1, h2, h3, ?_, ?_, ?_, ?_, ?_, hr _, hr _, hr _⟩ <;> simp only [newN, List.length_replicate] <;> omega
end Go.Proofs.Ytodbglncccgdbaa
namespace Go.Proofs.Ytodbglncccgdbaa
open Go.RowKit Go.Proofs.YtodbglncccgdbaaW.PrintWords
open NoC
theorem OB.upd {w w1 : World} {lo hi : Nat} {v : Value} {l : List (List Flit)} {vs : List Value} (h : OB w lo hi v l vs) (k : Nat) (hk : k < l.length) (hg : w.grownBy w1 (vr vs k).ownBlock) {y : List Flit} (hy : RU kF 102 w1 lo hi (vr vs k) y) : OB w1 lo hi v (l.set k y) vs := by
  have hl := h.len
  obtain ⟨inner, hin⟩ := Kd.R_own (h.row k hk)
  refine ⟨?_, h.top, fun i hi' => ?_, fun i j hij hj => h.apart i j hij (by rwa [List.length_set] at hj)⟩
  · rw [List.length_set]
    exact h.own.kept hg (own_type_ne h.own hin (by decide))
  · rw [List.length_set] at hi'
    rw [set_getB hk i hi']
    by_cases e : k = i
    · subst e
      rw [if_pos rfl]
      exact hy
    · rw [if_neg e]
      obtain ⟨h0, inner', ho, hr⟩ := h.row i hi'
      exact ⟨h0, inner', ho.kept hg (h.apart' (fun h => e h.symm) hi' hk), hr⟩
def totTo (l : List (List Flit)) : Nat → Nat
  | 0 => 0
  | i + 1 => totTo l i + (rl l i).length
theorem totTo_le {l : List (List Flit)} (h : ∀ x ∈ l, x.length ≤ 2097152) : ∀ i, i ≤ l.length → totTo l i ≤ 2097152 * i := by
  intro i
  induction i with
  | zero => intro _; simp [totTo]
  | succ i ih =>
    intro hi
    have h1 := ih (by omega)
    have h2 := h _ (rl_mem (show i < l.length by omega))
    simp only [totTo]
    omega
structure NetI (w : World) (a b : Nat → Nat) (n : Net) (q : NA) (v4 v7 v8 : List Value) : Prop where
  br : RU (Kd.int .i64) 3 w (a 0) (b 0) (.slice q.a1 n.mesh.br.length q.c1) n.mesh.br
  pa : RU (Kd.int .i64) 3 w (a 1) (b 1) (.slice q.a2 n.pa.length q.c2) n.pa
  pb : RU (Kd.int .i64) 3 w (a 1) (b 1) (.slice q.a3 n.pb.length q.c3) n.pb
  ap : Apart (.slice q.a3 n.pb.length q.c3) (.slice q.a2 n.pa.length q.c2)
  bufs : OB w (a 2) (b 2) (.slice q.a4 n.bufs.length q.c4) n.bufs v4
  owners : RU (Kd.int .i64) 3 w (a 3) (b 3) (.slice q.a5 n.owners.length q.c5) n.owners
  turns : RU (Kd.int .i64) 3 w (a 4) (b 4) (.slice q.a6 n.turns.length q.c6) n.turns
  srcs : OB w (a 5) (b 5) (.slice q.a7 n.srcs.length q.c7) n.srcs v7
  arrs : OB w (a 6) (b 6) (.slice q.a8 n.arrs.length q.c8) n.arrs v8
theorem NetI.reads {w : World} {a b : Nat → Nat} {n : Net} {q : NA} {v4 v7 v8 : List Value} {w0 : World} {q0 : NA} {e0 : Nat} (h : NetI w a b n q v4 v7 v8) (k : NetR e0 w0 n q0) : NetR 102 w n q :=
  ⟨h.br.reads.2.2, h.pa.reads.2.2, h.pb.reads.2.2, h.bufs.reads.2.2, h.owners.reads.2.2, h.turns.reads.2.2, h.srcs.reads.2.2, h.arrs.reads.2.2, k.h1, k.h2, k.h3, k.h4, k.h5, k.h6, k.h7, k.h8, k.h9, k.h10, k.h11⟩
theorem NetI.below {w w1 : World} {a b : Nat → Nat} {n : Net} {q : NA} {v4 v7 v8 : List Value} (h : NetI w a b n q v4 v7 v8) (hb : Below w.heap.size w w1) : NetI w1 a b n q v4 v7 v8 :=
  ⟨h.br.below hb, h.pa.below hb, h.pb.below hb, h.ap, h.bufs.below hb, h.owners.below hb, h.turns.below hb, h.srcs.below hb, h.arrs.below hb⟩
def RI (w : World) (lo : Nat) (A : Option Addr) (c : Nat) (xs : List Int) : Prop := xs = [] ∨ Kd.R (Kd.int .i64) 3 w lo (fun _ => True) (.slice A xs.length c) xs
def Own1 (r : Option Nat) (A : Option Addr) (c : Nat) (xs : List Int) : Prop := r = none ∨ (xs ≠ [] ∧ r = (Value.slice A xs.length c).ownBlock)
section
variable {w w1 : World} {lo : Nat} {A B : Option Addr} {c d : Nat} {xs ys : List Int}
theorem C_nil (w : World) (A : Option Addr) : Kd.C (Kd.int .i64) w A 0 [] := ⟨rfl, by simp, fun h => absurd h (by simp)⟩
theorem RI.reads (h : RI w lo A c xs) : Kd.C (Kd.int .i64) w A xs.length xs := by
  rcases h with h | h
  · subst h; exact C_nil w A
  · exact (Kd.R_rowX h).2.2
theorem RI.below (h : RI w lo A c xs) (hb : Below w.heap.size w w1) : RI w1 lo A c xs := h.imp id (fun h => Kd.R_below h hb)
theorem RI.lower {lo' : Nat} (h : RI w lo A c xs) (hl : lo' ≤ lo) : RI w lo' A c xs := h.imp id (fun h => Kd.R_lower h hl)
theorem R_chg {α : Type} {k : Kd α} {e a b : Nat} {v : Value} {l : List α} (h : k.R e w lo (fun _ => True) v l) (hc : Chg a b w w1) (hh : b ≤ lo) : k.R e w1 lo (fun _ => True) v l :=
  RU.row (RU.chg (RU.of h (Nat.le_refl _) (Nat.le_refl _)) hc (.inr hh))
theorem RI.chg {a b : Nat} (h : RI w lo A c xs) (hc : Chg a b w w1) (hh : b ≤ lo) : RI w1 lo A c xs := h.imp id (fun h => R_chg h hc hh)
theorem RI.grownI {r : Option Nat} (h : RI w lo A c xs) (hg : w.grownBy w1 r) (hr : Own1 r B d ys) (ha : Ap0 (.slice A xs.length c) (.slice B ys.length d)) : RI w1 lo A c xs := by
  rcases h with h | h
  · exact .inl h
  · rcases hr with rfl | ⟨hn, rfl⟩
    · exact .inr (R_grownI h hg (by cases (Value.slice A xs.length c).ownBlock <;> simp))
    · rcases ha with h0 | h0 | h0
      · exact .inl (List.eq_nil_of_length_eq_zero h0)
      · exact absurd (List.eq_nil_of_length_eq_zero h0) hn
      · exact .inr (R_grownI h hg h0)
theorem RI.grownF {b2 : Nat} {u : Value} {fs : List Flit} (h : RI w lo A c xs) (hu : kF.R 102 w b2 (fun _ => True) u fs) (hg : w.grownBy w1 u.ownBlock) : RI w1 lo A c xs := by
  rcases h with h | h
  · exact .inl h
  · obtain ⟨i1, hi1⟩ := Kd.R_own h
    obtain ⟨i2, hi2⟩ := Kd.R_own hu
    exact .inr (R_grownI h hg (own_type_ne hi1 hi2 (by decide)))
end
structure NY (w : World) (lo : Nat) (n : Net) (q : NA) (v4 v7 v8 : List Value) : Prop where
  br : RI w lo q.a1 q.c1 n.mesh.br
  pa : RI w lo q.a2 q.c2 n.pa
  pb : RI w lo q.a3 q.c3 n.pb
  owners : RI w lo q.a5 q.c5 n.owners
  turns : RI w lo q.a6 q.c6 n.turns
  bufs : w.ownsRow lo 87 1 (.slice q.a4 n.bufs.length q.c4) n.bufs.length v4
  srcs : w.ownsRow lo 87 1 (.slice q.a7 n.srcs.length q.c7) n.srcs.length v7
  arrs : w.ownsRow lo 87 1 (.slice q.a8 n.arrs.length q.c8) n.arrs.length v8
  rows : FR w lo (v4 ++ (v7 ++ v8)) (n.bufs ++ (n.srcs ++ n.arrs))
  apI : AllAp0 5 (iv n q)
section
variable {w w1 : World} {lo : Nat} {n : Net} {q : NA} {v4 v7 v8 : List Value}
theorem NX.ny (h : NX w lo n q v4 v7 v8) : NY w lo n q v4 v7 v8 := ⟨.inr h.br, .inr h.pa, .inr h.pb, .inr h.owners, .inr h.turns, h.bufs, h.srcs, h.arrs, h.rows, h.apI⟩
theorem FR.chg {a b : Nat} {vs : List Value} {l : List (List Flit)} (h : FR w lo vs l) (hc : Chg a b w w1) (hh : b ≤ lo) : FR w1 lo vs l := ⟨h.len, fun i hi => R_chg (h.row i hi) hc hh, h.ap⟩
theorem own_chg {a b m : Nat} {v : Value} {vs : List Value} (h : w.ownsRow lo 87 1 v m vs) (hc : Chg a b w w1) (hh : b ≤ lo) : w1.ownsRow lo 87 1 v m vs := own_move h (fun k hk => hc.block k (own_lt h k hk) (.inr (Nat.le_trans hh (own_base h k hk))))
theorem NY.below (h : NY w lo n q v4 v7 v8) (hb : Below w.heap.size w w1) : NY w1 lo n q v4 v7 v8 := ⟨h.br.below hb, h.pa.below hb, h.pb.below hb, h.owners.below hb, h.turns.below hb, pw_own_below h.bufs hb, pw_own_below h.srcs hb, pw_own_below h.arrs hb, h.rows.below hb, h.apI⟩
theorem NY.chg {a b : Nat} (h : NY w lo n q v4 v7 v8) (hc : Chg a b w w1) (hh : b ≤ lo) : NY w1 lo n q v4 v7 v8 := ⟨h.br.chg hc hh, h.pa.chg hc hh, h.pb.chg hc hh, h.owners.chg hc hh, h.turns.chg hc hh, own_chg h.bufs hc hh, own_chg h.srcs hc hh, own_chg h.arrs hc hh, h.rows.chg hc hh, h.apI⟩
theorem NY.l4 (h : NY w lo n q v4 v7 v8) : v4.length = n.bufs.length := by have := h.bufs.1; omega
theorem NY.l7 (h : NY w lo n q v4 v7 v8) : v7.length = n.srcs.length := by have := h.srcs.1; omega
theorem NY.l8 (h : NY w lo n q v4 v7 v8) : v8.length = n.arrs.length := by have := h.arrs.1; omega
theorem NY.row4 (h : NY w lo n q v4 v7 v8) (k : Nat) (hk : k < n.bufs.length) : kF.R 102 w lo (fun _ => True) (vr v4 k) (rl n.bufs k) := by
  have := h.rows.row k (by simp; omega)
  rwa [vr_left (by rw [h.l4]; exact hk), rl_left hk] at this
theorem NY.row7 (h : NY w lo n q v4 v7 v8) (k : Nat) (hk : k < n.srcs.length) : kF.R 102 w lo (fun _ => True) (vr v7 k) (rl n.srcs k) := by
  have := h.rows.row (n.bufs.length + k) (by simp; omega)
  rw [rl_right, ← h.l4, vr_right] at this
  rwa [vr_left (by rw [h.l7]; exact hk), rl_left hk] at this
theorem NY.row8 (h : NY w lo n q v4 v7 v8) (k : Nat) (hk : k < n.arrs.length) : kF.R 102 w lo (fun _ => True) (vr v8 k) (rl n.arrs k) := by
  have := h.rows.row (n.bufs.length + (n.srcs.length + k)) (by simp; omega)
  rw [rl_right, rl_right, ← h.l4, vr_right, ← h.l7, vr_right] at this
  exact this
theorem NY.reads (h : NY w lo n q v4 v7 v8) (k : NB n) : NetR 102 w n q :=
  ⟨h.br.reads, h.pa.reads, h.pb.reads, (own_readsB h.bufs h.row4).2.2, h.owners.reads, h.turns.reads, (own_readsB h.srcs h.row7).2.2, (own_readsB h.arrs h.row8).2.2, k.h1, k.h2, k.h3, k.h4, k.h5, k.h6, k.h7, k.h8, k.h9, k.h10, k.h11⟩
end
def mk1 (k : Int) (n : Net) : Int := k + n.mesh.br.length
theorem RI_lt {w : World} {lo : Nat} {A : Option Addr} {c : Nat} {xs : List Int} (h : RI w lo A c xs) : xs ≠ [] → ∀ i, (Value.slice A xs.length c).ownBlock = some i → lo ≤ i ∧ i < w.heap.size := by
  intro h0 i hi
  rcases h with h | h
  · exact absurd h h0
  · exact ⟨Kd.R_base h i hi, Kd.R_lt h i hi⟩
structure NT (hi : Nat) (n : Net) (q : NA) (v4 v7 v8 : List Value) : Prop where
  br : n.mesh.br ≠ [] → ∀ i, (Value.slice q.a1 n.mesh.br.length q.c1).ownBlock = some i → i < hi
  pa : n.pa ≠ [] → ∀ i, (Value.slice q.a2 n.pa.length q.c2).ownBlock = some i → i < hi
  pb : n.pb ≠ [] → ∀ i, (Value.slice q.a3 n.pb.length q.c3).ownBlock = some i → i < hi
  owners : n.owners ≠ [] → ∀ i, (Value.slice q.a5 n.owners.length q.c5).ownBlock = some i → i < hi
  turns : n.turns ≠ [] → ∀ i, (Value.slice q.a6 n.turns.length q.c6).ownBlock = some i → i < hi
  bufs : ∀ j : Nat, j < n.bufs.length → ∀ i, (vr v4 j).ownBlock = some i → i < hi
  srcs : ∀ j : Nat, j < n.srcs.length → ∀ i, (vr v7 j).ownBlock = some i → i < hi
  arrs : ∀ j : Nat, j < n.arrs.length → ∀ i, (vr v8 j).ownBlock = some i → i < hi
theorem NY.top {w : World} {lo : Nat} {n : Net} {q : NA} {v4 v7 v8 : List Value} (h : NY w lo n q v4 v7 v8) : NT w.heap.size n q v4 v7 v8 :=
  ⟨fun h0 i h9 => (RI_lt h.br h0 i h9).2, fun h0 i h9 => (RI_lt h.pa h0 i h9).2, fun h0 i h9 => (RI_lt h.pb h0 i h9).2, fun h0 i h9 => (RI_lt h.owners h0 i h9).2, fun h0 i h9 => (RI_lt h.turns h0 i h9).2, fun j hj i h9 => Kd.R_lt (h.row4 j hj) i h9, fun j hj i h9 => Kd.R_lt (h.row7 j hj) i h9, fun j hj i h9 => Kd.R_lt (h.row8 j hj) i h9⟩
def idleN (n : Net) : Bool := decide (totTo n.bufs n.bufs.length = 0) && decide (totTo n.srcs n.srcs.length = 0)
def movesV (n : Net) : Int := ((allGrants n).length : Int) + ((enteringN n).length : Int)
def stuckN (n : Net) : Bool := !idleN n && (movesV n == 0)
theorem tot_bound {l : List (List Flit)} (hn : l.length ≤ 2097152) (h : ∀ x ∈ l, x.length ≤ 2097152) (k : Nat) (hk : k ≤ l.length) : (totTo l k : Int) ≤ 4398046511104 := by
  have := totTo_le h k hk
  omega
theorem impl_flitsIn (l : List (List Flit)) (A : Option Addr) (c : Nat) (w : World) (hr : (kB 102).C w A l.length l) (hn : l.length ≤ 2097152) (hm : Hid (∀ x ∈ l, x.length ≤ 2097152)) :
    Calls Try.prog 109 #[.slice A l.length c] w fun e w' => e = .returned (.int .i64 (totTo l l.length : Int)) ∧ w = w' := by
  go_enter Try.func109, Try.ntmps109
  go_wp2
  go_loop [3, 8] (fun s i => ∃ k : Nat, i = .int .i64 k ∧ k ≤ l.length ∧ s = .int .i64 (totTo l k : Int)) (fun _ i => l.length - (intOf i).toNat)
  case atStart => exact ⟨0, rfl, Nat.zero_le _, rfl⟩
  case round =>
    obtain ⟨k, rfl, hk, rfl⟩ := hrel
    have hb := tot_bound hn hm.out k hk
    by_cases hlt : k < l.length
    · obtain ⟨b, off, rfl, hb, Ai, ci, p0, hle, hCi⟩ := rdB_at hr k hlt
      have hki := hm.out _ (rl_mem hlt)
      have hs : ((totTo l (k + 1) : Nat) : Int) = (totTo l k : Int) + ((rl l k).length : Int) := by simp [totTo]
      have HS := Lib.hid hs
      clear hs
      go_wp2
      go_round
      case rel => exact ⟨k + 1, by go_num, by omega, by rw [HS.out]⟩
      case measure => simp [intOf]; omega
    · obtain rfl : k = l.length := by omega
      go_wp2
      go_ret
      exact ⟨rfl, rfl⟩
theorem idle_1 {n : Net} (h : ¬ totTo n.bufs n.bufs.length = 0) : idleN n = false := by simp [idleN, h]
theorem idle_2 {n : Net} (h : totTo n.bufs n.bufs.length = 0) : idleN n = decide (totTo n.srcs n.srcs.length = 0) := by simp [idleN, h]
set_option maxHeartbeats 1000000 in
theorem impl_isIdle (n : Net) (q : NA) (bx : Nat) (w : World) (hr : NetR 102 w n q) (hx : Box w bx (netCells n q)) :
    Calls Try.prog 89 #[.pointer (some ⟨bx, 0, none⟩)] w fun e w' => e = .returned (.bool (idleN n)) ∧ w = w' := by
  obtain ⟨a1, a2, a3, a4, a5, a6, a7, a8, c1, c2, c3, c4, c5, c6, c7, c8⟩ := q; obtain ⟨Rbr, Rpa, Rpb, Rbu, Row, Rtu, Rso, Rar, L1, L2, L3, L4, L5, L6, L7, L8, L9, L10, L11⟩ := hr; have M9 := Lib.hid L9; have M10 := Lib.hid L10; have M11 := Lib.hid L11; clear L9 L10 L11; dsimp only [netCells] at *
  have xl := hx.lt; have x0 : w.cell? ⟨bx, 0, none⟩ = some (.int .i64 n.mesh.g.w) := hx.get 0; have x1 : w.cell? ⟨bx, 1, none⟩ = some (.int .i64 n.mesh.g.h) := hx.get 1; have x2 : w.cell? ⟨bx, 2, none⟩ = some (.slice a1 n.mesh.br.length c1) := hx.get 2; have x3 : w.cell? ⟨bx, 3, none⟩ = some (.slice a2 n.pa.length c2) := hx.get 3; have x4 : w.cell? ⟨bx, 4, none⟩ = some (.slice a3 n.pb.length c3) := hx.get 4; have x5 : w.cell? ⟨bx, 5, none⟩ = some (.slice a4 n.bufs.length c4) := hx.get 5; have x6 : w.cell? ⟨bx, 6, none⟩ = some (.slice a5 n.owners.length c5) := hx.get 6; have x7 : w.cell? ⟨bx, 7, none⟩ = some (.slice a6 n.turns.length c6) := hx.get 7; have x8 : w.cell? ⟨bx, 8, none⟩ = some (.slice a7 n.srcs.length c7) := hx.get 8; have x9 : w.cell? ⟨bx, 9, none⟩ = some (.slice a8 n.arrs.length c8) := hx.get 9; have x10 : w.cell? ⟨bx, 10, none⟩ = some (.int .i64 n.time) := hx.get 10; clear hx
  obtain ⟨s, es⟩ : ∃ s, totTo n.bufs n.bufs.length = s := ⟨_, rfl⟩
  obtain ⟨t, et⟩ : ∃ t, totTo n.srcs n.srcs.length = t := ⟨_, rfl⟩
  have ES := Lib.hid es
  have ET := Lib.hid et
  clear es et
  by_cases hs : s = 0
  · have HI : Hid (idleN n = decide (t = 0)) := Lib.hid (by rw [idle_2 (ES.out.trans hs), ET.out])
    have f1 : ((s : Int) == 0) = true := by simp [hs]
    clear hs
    go_enter Try.func89, Try.ntmps89
    go_wp2_with (first | (go_at_call_of 109 n.srcs; refine (impl_flitsIn n.srcs a7 c7 _ Rso L7 M10).mono ?_; rintro e w' ⟨he, rfl⟩; rw [ET.out] at he; subst he) | (go_at_call_of 109 n.bufs; refine (impl_flitsIn n.bufs a4 c4 _ Rbu L4 M9).mono ?_; rintro e w' ⟨he, rfl⟩; rw [ES.out] at he; subst he))
    go_ret
    exact ⟨ret_bool (by rw [HI.out]; by_cases h : t = 0 <;> simp [h]), rfl⟩
  · have HI : Hid (idleN n = false) := Lib.hid (idle_1 (by rw [ES.out]; exact hs))
    have f1 : ((s : Int) == 0) = false := by simp [hs]
    clear hs
    go_enter Try.func89, Try.ntmps89
    go_wp2_with (go_at_call_of 109 n.bufs; refine (impl_flitsIn n.bufs a4 c4 _ Rbu L4 M9).mono ?_; rintro e w' ⟨he, rfl⟩; rw [ES.out] at he; subst he)
    go_ret
    exact ⟨ret_bool HI.out.symm, rfl⟩
set_option maxHeartbeats 2000000 in
theorem impl_isStuck (n : Net) (q : NA) (bx : Nat) (w : World) (hr : NetR 102 w n q) (hx : Box w bx (netCells n q)) (ok : netOk n = true) :
    Calls Try.prog 50 #[.pointer (some ⟨bx, 0, none⟩)] w fun e w' => e = .returned (.bool (stuckN n)) ∧ Below w.heap.size w w' := by
  have R := Lib.hid hr
  have X := Lib.hid hx
  have OK := Lib.hid ok
  clear hr hx ok
  cases hi : idleN n
  · have HI : Hid (stuckN n = (movesV n == 0)) := Lib.hid (by simp [stuckN, hi])
    obtain ⟨m, em⟩ : ∃ m, movesV n = m := ⟨_, rfl⟩
    rw [em] at HI
    have EM := Lib.hid (show ((allGrants n).length : Int) + ((enteringN n).length : Int) = m from em)
    have H2 := Lib.hid hi
    clear em hi
    go_enter Try.func50, Try.ntmps50
    go_wp2_with (first | (go_at_call 89; refine (impl_isIdle n q bx _ R.out X.out).mono ?_; rintro e w' ⟨he, rfl⟩; rw [H2.out] at he; subst he) | (go_at_call 90; refine (impl_moves n q bx _ (R.out.below bel) (X.out.below bel) OK.out).mono ?_; rintro e w1 ⟨he, hb1⟩; rw [EM.out] at he; subst he; obtain ⟨hc1, hf1, hz1⟩ := bcell hb1; (try simp only [szs] at hz1); have hb2 := far2; obtain ⟨hc2, hf2, hz2⟩ := bcell hb2; (try simp only [szs] at hz2); try (first | obtain ⟨hy1, hy2, hy3, hy4⟩ := lts4 hz2 | obtain ⟨hy1, hy2, hy3⟩ := lts3 hz2 | obtain ⟨hy1, hy2⟩ := lts2 hz2 | have hy1 := lts1 hz2); have hb9 := hb1))
    go_ret
    exact ⟨ret_bool HI.out.symm, bel⟩
  · have HI : Hid (stuckN n = false) := Lib.hid (by simp [stuckN, hi])
    have H2 := Lib.hid hi
    clear hi
    go_enter Try.func50, Try.ntmps50
    go_wp2_with (go_at_call 89; refine (impl_isIdle n q bx _ R.out X.out).mono ?_; rintro e w' ⟨he, rfl⟩; rw [H2.out] at he; subst he)
    go_ret
    exact ⟨ret_bool HI.out.symm, bel⟩
end Go.Proofs.Ytodbglncccgdbaa
namespace Go.Proofs.Ytodbglncccgdbaa
open NoC
def runN (n : Net) : Nat → Net
  | 0 => n
  | k + 1 => stepN (runN n k)
theorem runN_time (n : Net) : ∀ k : Nat, (runN n k).time = n.time + k := by
  intro k
  induction k with
  | zero => simp [runN]
  | succ k ih => show (runN n k).time + 1 = _; rw [ih]; omega
theorem runN_ok {n : Net} (ok : netOk n = true) : ∀ k : Nat, n.time + k ≤ 1000000 → netOk (runN n k) = true := by
  intro k
  induction k with
  | zero => intro _; exact ok
  | succ k ih =>
    intro h
    exact step_ok (ih (by omega)) (by rw [runN_time]; omega)
def canRunN (n : Net) (steps : Int) : Bool := netOk n && inside steps 0 400 && decide (n.time + steps ≤ 1000000)
def movesFrom (n : Net) (i : Nat) : Nat → Bool
  | 0 => true
  | f + 1 => if stuckN (runN n i) = true then false else movesFrom n (i + 1) f
def movesAlwaysN (n : Net) (steps : Int) : Bool := canRunN n steps && movesFrom n 0 steps.toNat
theorem step_arrs (n : Net) (t : Nat) : (rl (stepN n).arrs t).length ≤ (rl n.arrs t).length + (allGrants n).length := by
  have h1 := (enterL_time n (enteringN n) (afterPush n)).2.2.2.2.2.2
  have h2 := (pushL_rows n t (allGrants n) (afterPop n)).2
  have e : (stepN n).arrs = (afterPush n).arrs := (step_parts n).2.2.2.2.2
  rw [e]
  exact h2
theorem run_parts (n : Net) : ∀ k : Nat, (runN n k).mesh = n.mesh ∧ (runN n k).pa = n.pa ∧ (runN n k).pb = n.pb := by
  intro k
  induction k with
  | zero => exact ⟨rfl, rfl, rfl⟩
  | succ k ih =>
    obtain ⟨e1, e2, e3, _⟩ := step_parts (runN n k)
    exact ⟨e1.trans ih.1, e2.trans ih.2.1, e3.trans ih.2.2⟩
theorem run_lens (n : Net) : ∀ k : Nat, Lens n (runN n k) := by
  intro k
  induction k with
  | zero => exact ⟨rfl, rfl, rfl, rfl, rfl⟩
  | succ k ih =>
    have h := step_lens (runN n k)
    exact ⟨h.b.trans ih.b, h.o.trans ih.o, h.t.trans ih.t, h.s.trans ih.s, h.a.trans ih.a⟩
theorem run_arrs (n : Net) (t : Nat) : ∀ k : Nat, (rl (runN n k).arrs t).length ≤ (rl n.arrs t).length + 80 * k := by
  intro k
  induction k with
  | zero => exact Nat.le_refl _
  | succ k ih =>
    have h := step_arrs (runN n k) t
    have g := allGrants_len (runN n k)
    have e : runN n (k + 1) = stepN (runN n k) := rfl
    rw [e]
    omega
theorem rl_of_mem {l : List (List Flit)} {x : List Flit} (h : x ∈ l) : ∃ i : Nat, i < l.length ∧ rl l i = x := by
  obtain ⟨i, hi, rfl⟩ := List.getElem_of_mem h
  exact ⟨i, hi, by simp [rl, List.getD_eq_getElem?_getD, hi]⟩
theorem run_nb {n : Net} (nb : NB n) (hA : ∀ x ∈ n.arrs, x.length ≤ 1048576) (k : Nat) (hk : k ≤ 1000) (ok : netOk (runN n k) = true) : NB (runN n k) := by
  obtain ⟨e1, e2, e3⟩ := run_parts n k
  have L := run_lens n k
  obtain ⟨c, s1, s2, s3, s4, s5, hb, hs, _⟩ := netOk_parts ok
  refine ⟨by rw [e1]; exact nb.h1, by rw [e2]; exact nb.h2, by rw [e3]; exact nb.h3, by rw [L.b]; exact nb.h4, by rw [L.o]; exact nb.h5, by rw [L.t]; exact nb.h6, by rw [L.s]; exact nb.h7, by rw [L.a]; exact nb.h8, fun x hx => ?_, fun x hx => ?_, fun x hx => ?_⟩
  · obtain ⟨i, hi, rfl⟩ := rl_of_mem hx
    have := (bufOk_iff.1 (hb i hi)).2
    omega
  · obtain ⟨i, hi, rfl⟩ := rl_of_mem hx
    have := hs i hi
    simp only [srcOk, Bool.and_eq_true, decide_eq_true_eq] at this
    omega
  · obtain ⟨i, hi, rfl⟩ := rl_of_mem hx
    have h1 := run_arrs n i k
    have hi2 : i < n.arrs.length := by rw [← L.a]; exact hi
    have h2 := hA _ (rl_mem hi2)
    omega
end Go.Proofs.Ytodbglncccgdbaa
namespace Go.Proofs.Ytodbglncccgdbaa
open Go.RowKit Go.Proofs.YtodbglncccgdbaaW.PrintWords
open NoC
theorem bw_trans {B C : Nat} {a b c : World} (h : Below B a b) (k : Below C b c) (hc : B ≤ C) : Below B a c := ⟨k.os.trans h.os, k.tape.trans h.tape, k.output.trans h.output, Nat.le_trans h.size k.size, fun i hi => (k.block i (by omega)).trans (h.block i hi)⟩
def BN (w : World) (b : Nat) : Prop := ∃ cs : Array Value, w.heap[b]? = some (.cells cs 38 (0, 0)) ∧ cs.size = 11
def putN (w : World) (b : Nat) (n : Net) (q : NA) : World := ((((((((((w.setCell ⟨b, 0, none⟩ (.int .i64 n.mesh.g.w)).setCell ⟨b, 1, none⟩ (.int .i64 n.mesh.g.h)).setCell ⟨b, 2, none⟩ (.slice q.a1 n.mesh.br.length q.c1)).setCell ⟨b, 3, none⟩ (.slice q.a2 n.pa.length q.c2)).setCell ⟨b, 4, none⟩ (.slice q.a3 n.pb.length q.c3)).setCell ⟨b, 5, none⟩ (.slice q.a4 n.bufs.length q.c4)).setCell ⟨b, 6, none⟩ (.slice q.a5 n.owners.length q.c5)).setCell ⟨b, 7, none⟩ (.slice q.a6 n.turns.length q.c6)).setCell ⟨b, 8, none⟩ (.slice q.a7 n.srcs.length q.c7)).setCell ⟨b, 9, none⟩ (.slice q.a8 n.arrs.length q.c8)).setCell ⟨b, 10, none⟩ (.int .i64 n.time)
section
variable {w w1 : World} {b : Nat} {n : Net} {q : NA}
theorem BN.below (h : BN w b) (hb : Below w.heap.size w w1) : BN w1 b := let ⟨cs, h1, h2⟩ := h; ⟨cs, blk_below h1 hb, h2⟩
theorem BN.low {B : Nat} (h : BN w b) (hb : Below B w w1) (hB : b < B) : BN w1 b := let ⟨cs, h1, h2⟩ := h; ⟨cs, (hb.block b hB).trans h1, h2⟩
theorem BN.blk (h : BN w b) : BlkT w b 38 := let ⟨cs, h1, _⟩ := h; ⟨cs, h1⟩
theorem BT.bn (h : BT w b n q) : BN w b := ⟨_, h, rfl⟩
theorem BN.far {c t : Nat} (h : BN w b) (hb : BlkT w c t) (ht : 38 ≠ t) (j : Nat) (u : Value) : BN (w.setCell ⟨c, j, none⟩ u) b := by
  obtain ⟨cs, h1, h2⟩ := h
  obtain ⟨c2, hc⟩ := hb
  exact ⟨cs, blk_far (p := ⟨c, j, none⟩) h1 (blk_ne h1 hc ht) u, h2⟩
theorem BN.off {c : Nat} (h : BN w b) (hne : b ≠ c) (j : Nat) (u : Value) : BN (w.setCell ⟨c, j, none⟩ u) b := by
  obtain ⟨cs, h1, h2⟩ := h
  exact ⟨cs, blk_far (p := ⟨c, j, none⟩) h1 hne u, h2⟩
theorem BN.get (h : BN w b) (i : Nat) (hi : i < 11) : ∃ v, w.cell? ⟨b, i, none⟩ = some v := by
  obtain ⟨cs, h1, h2⟩ := h
  exact ⟨cs[i], by rw [blk_cell h1 i]; exact Array.getElem?_eq_getElem (by omega)⟩
theorem BN.frozen (h : BN w b) (i : Nat) : w.frozen? ⟨b, i, none⟩ = false := by
  obtain ⟨cs, h1, h2⟩ := h
  exact blk_frozen h1 i
theorem allBN {w : World} {b : Nat} (h : BN w b) : (∃ v, w.cell? ⟨b, 0, none⟩ = some v) ∧ (∃ v, w.cell? ⟨b, 1, none⟩ = some v) ∧ (∃ v, w.cell? ⟨b, 2, none⟩ = some v) ∧ (∃ v, w.cell? ⟨b, 3, none⟩ = some v) ∧ (∃ v, w.cell? ⟨b, 4, none⟩ = some v) ∧ (∃ v, w.cell? ⟨b, 5, none⟩ = some v) ∧ (∃ v, w.cell? ⟨b, 6, none⟩ = some v) ∧ (∃ v, w.cell? ⟨b, 7, none⟩ = some v) ∧ (∃ v, w.cell? ⟨b, 8, none⟩ = some v) ∧ (∃ v, w.cell? ⟨b, 9, none⟩ = some v) ∧ (∃ v, w.cell? ⟨b, 10, none⟩ = some v) ∧ w.frozen? ⟨b, 0, none⟩ = false ∧ w.frozen? ⟨b, 1, none⟩ = false ∧ w.frozen? ⟨b, 2, none⟩ = false ∧ w.frozen? ⟨b, 3, none⟩ = false ∧ w.frozen? ⟨b, 4, none⟩ = false ∧ w.frozen? ⟨b, 5, none⟩ = false ∧ w.frozen? ⟨b, 6, none⟩ = false ∧ w.frozen? ⟨b, 7, none⟩ = false ∧ w.frozen? ⟨b, 8, none⟩ = false ∧ w.frozen? ⟨b, 9, none⟩ = false ∧ w.frozen? ⟨b, 10, none⟩ = false := ⟨h.get 0 (by omega), h.get 1 (by omega), h.get 2 (by omega), h.get 3 (by omega), h.get 4 (by omega), h.get 5 (by omega), h.get 6 (by omega), h.get 7 (by omega), h.get 8 (by omega), h.get 9 (by omega), h.get 10 (by omega), h.frozen 0, h.frozen 1, h.frozen 2, h.frozen 3, h.frozen 4, h.frozen 5, h.frozen 6, h.frozen 7, h.frozen 8, h.frozen 9, h.frozen 10⟩
theorem BN.lt (h : BN w b) : b < w.heap.size := by
  obtain ⟨cs, h1, h2⟩ := h
  exact blk_lt h1
theorem list11 {l : List Value} (h : l.length = 11) : ∃ a0 a1 a2 a3 a4 a5 a6 a7 a8 a9 a10, l = [a0, a1, a2, a3, a4, a5, a6, a7, a8, a9, a10] := by
  match l, h with
  | [a0, a1, a2, a3, a4, a5, a6, a7, a8, a9, a10], _ => exact ⟨a0, a1, a2, a3, a4, a5, a6, a7, a8, a9, a10, rfl⟩
theorem putN_BT (h : BN w b) : BT (putN w b n q) b n q := by
  obtain ⟨⟨l⟩, h1, h2⟩ := h
  obtain ⟨a0, a1, a2, a3, a4, a5, a6, a7, a8, a9, a10, rfl⟩ := list11 h2
  have k1 : (w.setCell ⟨b, 0, none⟩ (.int .i64 n.mesh.g.w)).heap[b]? = some (.cells #[.int .i64 n.mesh.g.w, a1, a2, a3, a4, a5, a6, a7, a8, a9, a10] 38 (0, 0)) := (blk_set h1 0 (.int .i64 n.mesh.g.w)).trans rfl
  have k2 : ((w.setCell ⟨b, 0, none⟩ (.int .i64 n.mesh.g.w)).setCell ⟨b, 1, none⟩ (.int .i64 n.mesh.g.h)).heap[b]? = some (.cells #[.int .i64 n.mesh.g.w, .int .i64 n.mesh.g.h, a2, a3, a4, a5, a6, a7, a8, a9, a10] 38 (0, 0)) := (blk_set k1 1 (.int .i64 n.mesh.g.h)).trans rfl
  have k3 : (((w.setCell ⟨b, 0, none⟩ (.int .i64 n.mesh.g.w)).setCell ⟨b, 1, none⟩ (.int .i64 n.mesh.g.h)).setCell ⟨b, 2, none⟩ (.slice q.a1 n.mesh.br.length q.c1)).heap[b]? = some (.cells #[.int .i64 n.mesh.g.w, .int .i64 n.mesh.g.h, .slice q.a1 n.mesh.br.length q.c1, a3, a4, a5, a6, a7, a8, a9, a10] 38 (0, 0)) := (blk_set k2 2 (.slice q.a1 n.mesh.br.length q.c1)).trans rfl
  have k4 : ((((w.setCell ⟨b, 0, none⟩ (.int .i64 n.mesh.g.w)).setCell ⟨b, 1, none⟩ (.int .i64 n.mesh.g.h)).setCell ⟨b, 2, none⟩ (.slice q.a1 n.mesh.br.length q.c1)).setCell ⟨b, 3, none⟩ (.slice q.a2 n.pa.length q.c2)).heap[b]? = some (.cells #[.int .i64 n.mesh.g.w, .int .i64 n.mesh.g.h, .slice q.a1 n.mesh.br.length q.c1, .slice q.a2 n.pa.length q.c2, a4, a5, a6, a7, a8, a9, a10] 38 (0, 0)) := (blk_set k3 3 (.slice q.a2 n.pa.length q.c2)).trans rfl
  have k5 : (((((w.setCell ⟨b, 0, none⟩ (.int .i64 n.mesh.g.w)).setCell ⟨b, 1, none⟩ (.int .i64 n.mesh.g.h)).setCell ⟨b, 2, none⟩ (.slice q.a1 n.mesh.br.length q.c1)).setCell ⟨b, 3, none⟩ (.slice q.a2 n.pa.length q.c2)).setCell ⟨b, 4, none⟩ (.slice q.a3 n.pb.length q.c3)).heap[b]? = some (.cells #[.int .i64 n.mesh.g.w, .int .i64 n.mesh.g.h, .slice q.a1 n.mesh.br.length q.c1, .slice q.a2 n.pa.length q.c2, .slice q.a3 n.pb.length q.c3, a5, a6, a7, a8, a9, a10] 38 (0, 0)) := (blk_set k4 4 (.slice q.a3 n.pb.length q.c3)).trans rfl
  have k6 : ((((((w.setCell ⟨b, 0, none⟩ (.int .i64 n.mesh.g.w)).setCell ⟨b, 1, none⟩ (.int .i64 n.mesh.g.h)).setCell ⟨b, 2, none⟩ (.slice q.a1 n.mesh.br.length q.c1)).setCell ⟨b, 3, none⟩ (.slice q.a2 n.pa.length q.c2)).setCell ⟨b, 4, none⟩ (.slice q.a3 n.pb.length q.c3)).setCell ⟨b, 5, none⟩ (.slice q.a4 n.bufs.length q.c4)).heap[b]? = some (.cells #[.int .i64 n.mesh.g.w, .int .i64 n.mesh.g.h, .slice q.a1 n.mesh.br.length q.c1, .slice q.a2 n.pa.length q.c2, .slice q.a3 n.pb.length q.c3, .slice q.a4 n.bufs.length q.c4, a6, a7, a8, a9, a10] 38 (0, 0)) := (blk_set k5 5 (.slice q.a4 n.bufs.length q.c4)).trans rfl
  have k7 : (((((((w.setCell ⟨b, 0, none⟩ (.int .i64 n.mesh.g.w)).setCell ⟨b, 1, none⟩ (.int .i64 n.mesh.g.h)).setCell ⟨b, 2, none⟩ (.slice q.a1 n.mesh.br.length q.c1)).setCell ⟨b, 3, none⟩ (.slice q.a2 n.pa.length q.c2)).setCell ⟨b, 4, none⟩ (.slice q.a3 n.pb.length q.c3)).setCell ⟨b, 5, none⟩ (.slice q.a4 n.bufs.length q.c4)).setCell ⟨b, 6, none⟩ (.slice q.a5 n.owners.length q.c5)).heap[b]? = some (.cells #[.int .i64 n.mesh.g.w, .int .i64 n.mesh.g.h, .slice q.a1 n.mesh.br.length q.c1, .slice q.a2 n.pa.length q.c2, .slice q.a3 n.pb.length q.c3, .slice q.a4 n.bufs.length q.c4, .slice q.a5 n.owners.length q.c5, a7, a8, a9, a10] 38 (0, 0)) := (blk_set k6 6 (.slice q.a5 n.owners.length q.c5)).trans rfl
  have k8 : ((((((((w.setCell ⟨b, 0, none⟩ (.int .i64 n.mesh.g.w)).setCell ⟨b, 1, none⟩ (.int .i64 n.mesh.g.h)).setCell ⟨b, 2, none⟩ (.slice q.a1 n.mesh.br.length q.c1)).setCell ⟨b, 3, none⟩ (.slice q.a2 n.pa.length q.c2)).setCell ⟨b, 4, none⟩ (.slice q.a3 n.pb.length q.c3)).setCell ⟨b, 5, none⟩ (.slice q.a4 n.bufs.length q.c4)).setCell ⟨b, 6, none⟩ (.slice q.a5 n.owners.length q.c5)).setCell ⟨b, 7, none⟩ (.slice q.a6 n.turns.length q.c6)).heap[b]? = some (.cells #[.int .i64 n.mesh.g.w, .int .i64 n.mesh.g.h, .slice q.a1 n.mesh.br.length q.c1, .slice q.a2 n.pa.length q.c2, .slice q.a3 n.pb.length q.c3, .slice q.a4 n.bufs.length q.c4, .slice q.a5 n.owners.length q.c5, .slice q.a6 n.turns.length q.c6, a8, a9, a10] 38 (0, 0)) := (blk_set k7 7 (.slice q.a6 n.turns.length q.c6)).trans rfl
  have k9 : (((((((((w.setCell ⟨b, 0, none⟩ (.int .i64 n.mesh.g.w)).setCell ⟨b, 1, none⟩ (.int .i64 n.mesh.g.h)).setCell ⟨b, 2, none⟩ (.slice q.a1 n.mesh.br.length q.c1)).setCell ⟨b, 3, none⟩ (.slice q.a2 n.pa.length q.c2)).setCell ⟨b, 4, none⟩ (.slice q.a3 n.pb.length q.c3)).setCell ⟨b, 5, none⟩ (.slice q.a4 n.bufs.length q.c4)).setCell ⟨b, 6, none⟩ (.slice q.a5 n.owners.length q.c5)).setCell ⟨b, 7, none⟩ (.slice q.a6 n.turns.length q.c6)).setCell ⟨b, 8, none⟩ (.slice q.a7 n.srcs.length q.c7)).heap[b]? = some (.cells #[.int .i64 n.mesh.g.w, .int .i64 n.mesh.g.h, .slice q.a1 n.mesh.br.length q.c1, .slice q.a2 n.pa.length q.c2, .slice q.a3 n.pb.length q.c3, .slice q.a4 n.bufs.length q.c4, .slice q.a5 n.owners.length q.c5, .slice q.a6 n.turns.length q.c6, .slice q.a7 n.srcs.length q.c7, a9, a10] 38 (0, 0)) := (blk_set k8 8 (.slice q.a7 n.srcs.length q.c7)).trans rfl
  have k10 : ((((((((((w.setCell ⟨b, 0, none⟩ (.int .i64 n.mesh.g.w)).setCell ⟨b, 1, none⟩ (.int .i64 n.mesh.g.h)).setCell ⟨b, 2, none⟩ (.slice q.a1 n.mesh.br.length q.c1)).setCell ⟨b, 3, none⟩ (.slice q.a2 n.pa.length q.c2)).setCell ⟨b, 4, none⟩ (.slice q.a3 n.pb.length q.c3)).setCell ⟨b, 5, none⟩ (.slice q.a4 n.bufs.length q.c4)).setCell ⟨b, 6, none⟩ (.slice q.a5 n.owners.length q.c5)).setCell ⟨b, 7, none⟩ (.slice q.a6 n.turns.length q.c6)).setCell ⟨b, 8, none⟩ (.slice q.a7 n.srcs.length q.c7)).setCell ⟨b, 9, none⟩ (.slice q.a8 n.arrs.length q.c8)).heap[b]? = some (.cells #[.int .i64 n.mesh.g.w, .int .i64 n.mesh.g.h, .slice q.a1 n.mesh.br.length q.c1, .slice q.a2 n.pa.length q.c2, .slice q.a3 n.pb.length q.c3, .slice q.a4 n.bufs.length q.c4, .slice q.a5 n.owners.length q.c5, .slice q.a6 n.turns.length q.c6, .slice q.a7 n.srcs.length q.c7, .slice q.a8 n.arrs.length q.c8, a10] 38 (0, 0)) := (blk_set k9 9 (.slice q.a8 n.arrs.length q.c8)).trans rfl
  have k11 : (((((((((((w.setCell ⟨b, 0, none⟩ (.int .i64 n.mesh.g.w)).setCell ⟨b, 1, none⟩ (.int .i64 n.mesh.g.h)).setCell ⟨b, 2, none⟩ (.slice q.a1 n.mesh.br.length q.c1)).setCell ⟨b, 3, none⟩ (.slice q.a2 n.pa.length q.c2)).setCell ⟨b, 4, none⟩ (.slice q.a3 n.pb.length q.c3)).setCell ⟨b, 5, none⟩ (.slice q.a4 n.bufs.length q.c4)).setCell ⟨b, 6, none⟩ (.slice q.a5 n.owners.length q.c5)).setCell ⟨b, 7, none⟩ (.slice q.a6 n.turns.length q.c6)).setCell ⟨b, 8, none⟩ (.slice q.a7 n.srcs.length q.c7)).setCell ⟨b, 9, none⟩ (.slice q.a8 n.arrs.length q.c8)).setCell ⟨b, 10, none⟩ (.int .i64 n.time)).heap[b]? = some (.cells #[.int .i64 n.mesh.g.w, .int .i64 n.mesh.g.h, .slice q.a1 n.mesh.br.length q.c1, .slice q.a2 n.pa.length q.c2, .slice q.a3 n.pb.length q.c3, .slice q.a4 n.bufs.length q.c4, .slice q.a5 n.owners.length q.c5, .slice q.a6 n.turns.length q.c6, .slice q.a7 n.srcs.length q.c7, .slice q.a8 n.arrs.length q.c8, .int .i64 n.time] 38 (0, 0)) := (blk_set k10 10 (.int .i64 n.time)).trans rfl
  exact k11
theorem NX.put {lo : Nat} {m : Net} {p : NA} {v4 v7 v8 : List Value} (h : NX w lo m p v4 v7 v8) (hb : BN w b) : NX (putN w b n q) lo m p v4 v7 v8 := by
  have b0 := hb.blk
  unfold putN
  have h1 := h.typed b0 (by decide) (by decide) (by decide) 0 (.int .i64 n.mesh.g.w)
  have b1 := b0.set b 0 (.int .i64 n.mesh.g.w)
  have h2 := h1.typed b1 (by decide) (by decide) (by decide) 1 (.int .i64 n.mesh.g.h)
  have b2 := b1.set b 1 (.int .i64 n.mesh.g.h)
  have h3 := h2.typed b2 (by decide) (by decide) (by decide) 2 (.slice q.a1 n.mesh.br.length q.c1)
  have b3 := b2.set b 2 (.slice q.a1 n.mesh.br.length q.c1)
  have h4 := h3.typed b3 (by decide) (by decide) (by decide) 3 (.slice q.a2 n.pa.length q.c2)
  have b4 := b3.set b 3 (.slice q.a2 n.pa.length q.c2)
  have h5 := h4.typed b4 (by decide) (by decide) (by decide) 4 (.slice q.a3 n.pb.length q.c3)
  have b5 := b4.set b 4 (.slice q.a3 n.pb.length q.c3)
  have h6 := h5.typed b5 (by decide) (by decide) (by decide) 5 (.slice q.a4 n.bufs.length q.c4)
  have b6 := b5.set b 5 (.slice q.a4 n.bufs.length q.c4)
  have h7 := h6.typed b6 (by decide) (by decide) (by decide) 6 (.slice q.a5 n.owners.length q.c5)
  have b7 := b6.set b 6 (.slice q.a5 n.owners.length q.c5)
  have h8 := h7.typed b7 (by decide) (by decide) (by decide) 7 (.slice q.a6 n.turns.length q.c6)
  have b8 := b7.set b 7 (.slice q.a6 n.turns.length q.c6)
  have h9 := h8.typed b8 (by decide) (by decide) (by decide) 8 (.slice q.a7 n.srcs.length q.c7)
  have b9 := b8.set b 8 (.slice q.a7 n.srcs.length q.c7)
  have h10 := h9.typed b9 (by decide) (by decide) (by decide) 9 (.slice q.a8 n.arrs.length q.c8)
  have b10 := b9.set b 9 (.slice q.a8 n.arrs.length q.c8)
  have h11 := h10.typed b10 (by decide) (by decide) (by decide) 10 (.int .i64 n.time)
  have b11 := b10.set b 10 (.int .i64 n.time)
  exact h11
theorem below_put {B : Nat} {w0 : World} (h : Below B w0 w) (hB : B ≤ b) : Below B w0 (putN w b n q) := by
  unfold putN
  exact below_setc (below_setc (below_setc (below_setc (below_setc (below_setc (below_setc (below_setc (below_setc (below_setc (below_setc h hB 0 _) hB 1 _) hB 2 _) hB 3 _) hB 4 _) hB 5 _) hB 6 _) hB 7 _) hB 8 _) hB 9 _) hB 10 _
end
end Go.Proofs.Ytodbglncccgdbaa
