/- Lemmas for laws of this seat, for all inputs: MG St StG NetOkI ReqI. -/
import Derived.Test.YtodbglncccgdbaaQ1
import Derived.Test.YtodbglncccgdbaaQ7
import Derived.IntWalk
set_option linter.unusedVariables false
set_option linter.unusedSimpArgs false
namespace NoC
def usedAt (us : List Bool) (i : Int) : Bool := us.getD (i / 2).toNat false
def keepU (us : List Bool) (i : Int) : Bool := !usedAt us i
def dist (x t : Int) : Int := (x - t + 10) % 10
def better (turn best x : Int) : Int := if best < 0 then x else if dist x turn < dist best turn then x else best
def firstTo (l : List Int) (turn : Int) (k : Nat) : Int := (l.take k).foldl (better turn) (-1)
def firstFrom (l : List Int) (turn : Int) : Int := firstTo l turn l.length
def smallL (l : List Int) : Prop := ∀ k : Nat, k < l.length → 0 ≤ ri l k ∧ ri l k ≤ 9
theorem take_nextI (l : List Int) (k : Nat) (hk : k < l.length) : l.take (k + 1) = l.take k ++ [ri l k] := by
  rw [ri_get l k hk, List.take_succ_eq_append_getElem hk]
theorem firstTo_succ (l : List Int) (turn : Int) (k : Nat) (hk : k < l.length) : firstTo l turn (k + 1) = better turn (firstTo l turn k) (ri l k) := by
  unfold firstTo
  rw [take_nextI l k hk, List.foldl_append]
  rfl
theorem firstTo_range {l : List Int} {turn : Int} (h : smallL l) : ∀ k, k ≤ l.length → -1 ≤ firstTo l turn k ∧ firstTo l turn k ≤ 9 := by
  intro k
  induction k with
  | zero => intro _; simp [firstTo]
  | succ k ih =>
    intro hk
    have h1 := ih (by omega)
    have h2 := h k (by omega)
    rw [firstTo_succ l turn k (by omega)]
    unfold better
    split
    · omega
    · split <;> omega
theorem better_1 {turn best x : Int} (h : best < 0) : better turn best x = x := by rw [better, if_pos h]
theorem better_2 {turn best x : Int} (h : ¬ best < 0) (h2 : (x - turn + 10) % 10 < (best - turn + 10) % 10) : better turn best x = x := by rw [better, if_neg h, if_pos (by unfold dist; exact h2)]
theorem better_3 {turn best x : Int} (h : ¬ best < 0) (h2 : ¬ (x - turn + 10) % 10 < (best - turn + 10) % 10) : better turn best x = best := by rw [better, if_neg h, if_neg (by unfold dist; exact h2)]
def leftOf (n : Net) (a p : Int) (us : List Bool) : List Int := (requestsN n a p).filter (keepU us)
def pick (n : Net) (a p : Int) (us : List Bool) : Int := firstFrom (leftOf n a p us) (ri n.turns (5 * a + p))
def gst (n : Net) (a : Int) : Nat → List Bool × List Grant
  | 0 => ([false, false, false, false, false], [])
  | p + 1 => if 0 ≤ pick n a p (gst n a p).1 then ((gst n a p).1.set (pick n a p (gst n a p).1 / 2).toNat true, (gst n a p).2 ++ [⟨a, p, pick n a p (gst n a p).1⟩]) else gst n a p
def grantsN (n : Net) (a : Int) : List Grant := (gst n a 5).2
theorem gst_yes {n : Net} {a : Int} {p : Nat} {k : Int} (h : pick n a p (gst n a p).1 = k) (h0 : 0 ≤ k) : gst n a (p + 1) = ((gst n a p).1.set (k / 2).toNat true, (gst n a p).2 ++ [⟨a, p, k⟩]) := by
  rw [gst, h, if_pos h0]
theorem gst_no {n : Net} {a : Int} {p : Nat} {k : Int} (h : pick n a p (gst n a p).1 = k) (h0 : k < 0) : gst n a (p + 1) = gst n a p := by
  rw [gst, h, if_neg (by omega)]
theorem gst_us (n : Net) (a : Int) : ∀ p, (gst n a p).1.length = 5 := by
  intro p
  induction p with
  | zero => rfl
  | succ p ih =>
    rw [gst]
    split
    · simp [ih]
    · exact ih
theorem gst_len (n : Net) (a : Int) : ∀ p, (gst n a p).2.length ≤ p := by
  intro p
  induction p with
  | zero => simp [gst]
  | succ p ih =>
    rw [gst]
    split
    · simp; omega
    · omega
theorem smallL_mem {l : List Int} (h : ∀ x ∈ l, 0 ≤ x ∧ x ≤ 9) : smallL l := by
  intro k hk
  rw [ri_get l k hk]
  exact h _ (List.getElem_mem hk)
theorem requests_small (n : Net) (a p : Int) : ∀ x ∈ requestsN n a p, 0 ≤ x ∧ x ≤ 9 := by
  intro x hx
  unfold requestsN requestsTo at hx
  obtain ⟨i, hi, rfl⟩ := List.mem_map.1 hx
  have := List.mem_range.1 (List.mem_filter.1 hi).1
  omega
theorem left_small (n : Net) (a p : Int) (us : List Bool) : ∀ x ∈ leftOf n a p us, 0 ≤ x ∧ x ≤ 9 := fun x hx => requests_small n a p x (List.mem_filter.1 hx).1
theorem left_len (n : Net) (a p : Int) (us : List Bool) : (leftOf n a p us).length ≤ 10 := Nat.le_trans (List.length_filter_le _ _) (requestsTo_len n a p 10)
theorem pick_range (n : Net) (a p : Int) (us : List Bool) : -1 ≤ pick n a p us ∧ pick n a p us ≤ 9 := firstTo_range (smallL_mem (left_small n a p us)) _ (Nat.le_refl _)
theorem turn_range {n : Net} {a : Int} (ok : netOk n = true) (nd : isNode n.mesh.g a = true) (p : Nat) (hp : p < 5) : 0 ≤ 5 * a + (p : Int) ∧ 5 * a + (p : Int) < (n.turns.length : Int) ∧ 0 ≤ ri n.turns (5 * a + p) ∧ ri n.turns (5 * a + p) ≤ 9 := by
  obtain ⟨_, h1, h2, h3, h4, h5, hb, hs, ho, ht, _⟩ := netOk_parts ok
  have := isNode_iff.1 nd
  have k0 : 0 ≤ 5 * a + (p : Int) := by omega
  have k1 : 5 * a + (p : Int) < (n.turns.length : Int) := by omega
  have := ht (5 * a + (p : Int)).toNat (by omega)
  rw [Int.toNat_of_nonneg k0, inside_iff] at this
  exact ⟨k0, k1, this.1, this.2⟩
def keptTo (us : List Bool) (l : List Int) (k : Nat) : List Int := (l.take k).filter (keepU us)
theorem keptTo_yes {us : List Bool} {l : List Int} (k : Nat) (hk : k < l.length) (h : usedAt us (ri l k) = false) : keptTo us l (k + 1) = keptTo us l k ++ [ri l k] := by
  unfold keptTo
  rw [take_nextI l k hk, List.filter_append]
  simp [keepU, h]
theorem keptTo_no {us : List Bool} {l : List Int} (k : Nat) (hk : k < l.length) (h : usedAt us (ri l k) = true) : keptTo us l (k + 1) = keptTo us l k := by
  unfold keptTo
  rw [take_nextI l k hk, List.filter_append]
  simp [keepU, h]
theorem keptTo_all {us : List Bool} {l : List Int} : ∀ k, k ≤ l.length → (∀ j : Nat, j < k → usedAt us (ri l j) = false) → keptTo us l k = l.take k := by
  intro k
  induction k with
  | zero => intro _ _; simp [keptTo]
  | succ k ih =>
    intro hk h
    rw [keptTo_yes k (by omega) (h k (by omega)), ih (by omega) (fun j hj => h j (by omega)), take_nextI l k (by omega)]
theorem keptTo_len (us : List Bool) (l : List Int) (k : Nat) : (keptTo us l k).length ≤ k := Nat.le_trans (List.length_filter_le _ _) (by rw [List.length_take]; omega)
def allTo (n : Net) (k : Nat) : List Grant := joinI k (fun a => grantsN n a)
def allGrants (n : Net) : List Grant := allTo n (nodeCount n.mesh.g).toNat
theorem allTo_len (n : Net) : ∀ k, (allTo n k).length ≤ 5 * k := by
  intro k
  induction k with
  | zero => simp [allTo, joinI]
  | succ k ih =>
    unfold allTo at ih ⊢
    rw [joinI_succ, List.length_append]
    have h : (grantsN n (k : Int)).length ≤ 5 := gst_len n k 5
    omega
theorem allTo_succ (n : Net) (k : Nat) : allTo n (k + 1) = allTo n k ++ grantsN n k := joinI_succ k _
def enters (n : Net) (a : Nat) : Bool := decide (0 < (rl n.srcs a).length) && decide ((rl n.bufs (10 * (a : Int) + 8 + (rf (rl n.srcs a) 0).cls)).length < 3)
def enterTo (n : Net) (k : Nat) : List Int := ((List.range k).filter (enters n)).map (fun (i : Nat) => (i : Int))
def enteringN (n : Net) : List Int := enterTo n n.srcs.length
theorem enterTo_yes {n : Net} {k : Nat} (h : enters n k = true) : enterTo n (k + 1) = enterTo n k ++ [(k : Int)] := by simp [enterTo, List.range_succ, List.filter_append, h]
theorem enterTo_no {n : Net} {k : Nat} (h : enters n k = false) : enterTo n (k + 1) = enterTo n k := by simp [enterTo, List.range_succ, List.filter_append, h]
theorem enterTo_len (n : Net) (k : Nat) : (enterTo n k).length ≤ k := by
  unfold enterTo
  rw [List.length_map]
  exact Nat.le_trans (List.length_filter_le _ _) (by simp)
theorem srcs_len {n : Net} (ok : netOk n = true) : n.srcs.length ≤ 16 ∧ (n.srcs.length : Int) = nodeCount n.mesh.g := by
  obtain ⟨_, h1, h2, h3, h4, h5, _⟩ := netOk_parts ok
  have := count_le n.mesh.g
  omega
theorem src_buf {n : Net} (ok : netOk n = true) (a : Nat) (ha : a < n.srcs.length) : isNode n.mesh.g a = true ∧ ((a : Int) ≤ 15) ∧ (rl n.srcs a).length ≤ 60 ∧ (0 < (rl n.srcs a).length → 0 ≤ (rf (rl n.srcs a) 0).cls ∧ (rf (rl n.srcs a) 0).cls ≤ 1 ∧ 10 * (a : Int) + 8 + (rf (rl n.srcs a) 0).cls < (n.bufs.length : Int)) := by
  obtain ⟨_, h1, h2, h3, h4, h5, hb, hs, _⟩ := netOk_parts ok
  have hc := count_le n.mesh.g
  have hn : isNode n.mesh.g a = true := isNode_iff.2 ⟨by omega, by omega⟩
  have h := hs a ha
  simp only [srcOk, Bool.and_eq_true, decide_eq_true_eq] at h
  refine ⟨hn, by omega, h.1, fun h0 => ?_⟩
  have hf : inside (rf (rl n.srcs a) 0).cls 0 1 = true := (areFl_get h.2 0 h0).2
  rw [inside_iff] at hf
  omega
def gIdx (g : Grant) : Int := 10 * g.node + g.input
def popB (bs : List (List Flit)) (g : Grant) : List (List Flit) := bs.set (gIdx g).toNat ((rl bs (gIdx g)).drop 1)
def popL (bs : List (List Flit)) (gs : List Grant) : List (List Flit) := gs.foldl popB bs
def mvF (n : Net) (g : Grant) : Flit := rf (rl n.bufs (gIdx g)) 0
def gAt (g : Grant) : Int := 10 * g.node + 2 * g.port + g.input % 2
def gTurn (g : Grant) : Int := 5 * g.node + g.port
def gOwn (n : Net) (g : Grant) : Int := if (mvF n g).tail = true then -1 else g.input / 2
def gTo (n : Net) (g : Grant) : Int := behindI n g.node g.port (g.input % 2)
def pushG (n : Net) (x : Net) (g : Grant) : Net :=
  if g.port = 4 then { x with arrs := x.arrs.set g.node.toNat (rl x.arrs g.node ++ [mvF n g]), owners := x.owners.set (gAt g).toNat (gOwn n g), turns := x.turns.set (gTurn g).toNat ((g.input + 1) % 10) }
  else { x with bufs := x.bufs.set (gTo n g).toNat (rl x.bufs (gTo n g) ++ [mvF n g]), owners := x.owners.set (gAt g).toNat (gOwn n g), turns := x.turns.set (gTurn g).toNat ((g.input + 1) % 10) }
def popN (x : Net) (g : Grant) : Net := { x with bufs := popB x.bufs g }
def pushL (n x : Net) (gs : List Grant) : Net := gs.foldl (pushG n) x
def eTo (n : Net) (k : Int) : Int := 10 * k + 8 + (rf (rl n.srcs k) 0).cls
def enterB (n x : Net) (k : Int) : Net := { x with bufs := x.bufs.set (eTo n k).toNat (rl x.bufs (eTo n k) ++ [rf (rl n.srcs k) 0]), srcs := x.srcs.set k.toNat ((rl x.srcs k).drop 1) }
def enterL (n x : Net) (ks : List Int) : Net := ks.foldl (enterB n) x
def afterPop (n : Net) : Net := { n with bufs := popL n.bufs (allGrants n) }
def afterPush (n : Net) : Net := pushL n (afterPop n) (allGrants n)
def stepN (n : Net) : Net := { enterL n (afterPush n) (enteringN n) with time := n.time + 1 }
def specG (n : Net) (x : Net) (g : Grant) : Net := pushG n (popN x g) g
def specL (n x : Net) (gs : List Grant) : Net := gs.foldl (specG n) x
structure GsOk (n : Net) (gs : List Grant) : Prop where
  nodup : (gs.map gIdx).Nodup
  range : ∀ g ∈ gs, 0 ≤ gIdx g ∧ gIdx g < (n.bufs.length : Int)
  full : ∀ g ∈ gs, rl n.bufs (gIdx g) ≠ []
theorem rl_setI {l : List (List Flit)} {k : Int} {v : List Flit} (h0 : 0 ≤ k) (hk : k < (l.length : Int)) (j : Int) (hj : 0 ≤ j) : rl (l.set k.toNat v) j = if j = k then v else rl l j := by
  by_cases e : j = k
  · subst e
    have : j.toNat < l.length := by omega
    simp [rl, List.getD_eq_getElem?_getD, this]
  · have : ¬ k.toNat = j.toNat := by omega
    simp [rl, List.getD_eq_getElem?_getD, e, this]
theorem popB_len (bs : List (List Flit)) (g : Grant) : (popB bs g).length = bs.length := by simp [popB]
theorem popL_len (gs : List Grant) : ∀ bs : List (List Flit), (popL bs gs).length = bs.length := by
  induction gs with
  | nil => intro bs; rfl
  | cons g gs ih => intro bs; show (popL (popB bs g) gs).length = _; rw [ih, popB_len]
theorem popL_snoc (bs : List (List Flit)) (gs : List Grant) (g : Grant) : popL bs (gs ++ [g]) = popB (popL bs gs) g := by simp [popL]
theorem popL_other (gs : List Grant) : ∀ (bs : List (List Flit)) (i : Int), 0 ≤ i → (∀ g ∈ gs, 0 ≤ gIdx g ∧ gIdx g < (bs.length : Int)) → (∀ g ∈ gs, gIdx g ≠ i) → rl (popL bs gs) i = rl bs i := by
  induction gs with
  | nil => intro bs i _ _ _; rfl
  | cons g gs ih =>
    intro bs i hi hr hne
    show rl (popL (popB bs g) gs) i = _
    have hg := hr g (by simp)
    rw [ih (popB bs g) i hi (fun x hx => by rw [popB_len]; exact hr x (by simp [hx])) (fun x hx => hne x (by simp [hx]))]
    unfold popB
    rw [rl_setI hg.1 hg.2 i hi, if_neg (fun e => hne g (by simp) e.symm)]
def addB (bs : List (List Flit)) (t : Int) (f : Flit) : List (List Flit) := bs.set t.toNat (rl bs t ++ [f])
theorem addB_len (bs : List (List Flit)) (t : Int) (f : Flit) : (addB bs t f).length = bs.length := by simp [addB]
theorem ext_rl {a b : List (List Flit)} (hl : a.length = b.length) (h : ∀ j : Int, 0 ≤ j → j < (a.length : Int) → rl a j = rl b j) : a = b := by
  apply List.ext_getElem hl
  intro j h1 h2
  have := h (j : Int) (by omega) (by omega)
  simpa [rl, List.getD_eq_getElem?_getD, h1, h2] using this
theorem pop_add {bs : List (List Flit)} {t : Int} {f : Flit} {g : Grant} (t0 : 0 ≤ t) (t1 : t < (bs.length : Int)) (g0 : 0 ≤ gIdx g) (g1 : gIdx g < (bs.length : Int)) (hne : rl bs (gIdx g) ≠ []) : popB (addB bs t f) g = addB (popB bs g) t f := by
  refine ext_rl (by simp [popB, addB]) (fun j j0 j1 => ?_)
  have ha : gIdx g < ((addB bs t f).length : Int) := by rw [addB_len]; exact g1
  have hb : t < ((popB bs g).length : Int) := by rw [popB_len]; exact t1
  conv => lhs; unfold popB
  conv => rhs; unfold addB
  rw [rl_setI g0 ha j j0, rl_setI t0 hb j j0]
  conv => lhs; unfold addB
  conv => rhs; unfold popB
  rw [rl_setI t0 t1 _ g0, rl_setI t0 t1 _ j0, rl_setI g0 g1 _ t0, rl_setI g0 g1 _ j0]
  by_cases e1 : j = gIdx g
  · by_cases e2 : j = t
    · subst e2
      rw [if_pos e1, if_pos rfl, if_pos e1.symm, if_pos e1, ← e1]
      rw [← e1] at hne
      cases h : rl bs j with
      | nil => exact absurd h hne
      | cons x xs => simp
    · rw [if_pos e1, if_neg e2, if_neg (by omega), if_pos e1]
  · by_cases e2 : j = t
    · subst e2
      rw [if_neg e1, if_pos rfl, if_pos rfl, if_neg e1]
    · rw [if_neg e1, if_neg e2, if_neg e2, if_neg e1]
theorem popL_add (gs : List Grant) : ∀ {bs : List (List Flit)} {t : Int} {f : Flit}, 0 ≤ t → t < (bs.length : Int) → (gs.map gIdx).Nodup → (∀ g ∈ gs, 0 ≤ gIdx g ∧ gIdx g < (bs.length : Int) ∧ rl bs (gIdx g) ≠ []) → popL (addB bs t f) gs = addB (popL bs gs) t f := by
  induction gs with
  | nil => intro bs t f _ _ _ _; rfl
  | cons g gs ih =>
    intro bs t f t0 t1 hn hg
    show popL (popB (addB bs t f) g) gs = addB (popL (popB bs g) gs) t f
    obtain ⟨g0, g1, g2⟩ := hg g (by simp)
    rw [pop_add t0 t1 g0 g1 g2]
    simp only [List.map_cons, List.nodup_cons] at hn
    refine ih t0 (by rw [popB_len]; exact t1) hn.2 (fun x hx => ?_)
    obtain ⟨x0, x1, x2⟩ := hg x (by simp [hx])
    refine ⟨x0, by rw [popB_len]; exact x1, ?_⟩
    unfold popB
    rw [rl_setI g0 g1 _ x0, if_neg (fun e => hn.1 (by rw [← e]; exact List.mem_map_of_mem hx))]
    exact x2
theorem pushG_bufs (n x : Net) (g : Grant) : (pushG n x g).bufs = if g.port = 4 then x.bufs else addB x.bufs (gTo n g) (mvF n g) := by unfold pushG addB; split <;> rfl
theorem pushG_len (n x : Net) (g : Grant) : (pushG n x g).bufs.length = x.bufs.length := by rw [pushG_bufs]; split; rfl; exact addB_len _ _ _
def GtOk (n : Net) (gs : List Grant) : Prop := ∀ g ∈ gs, ¬ g.port = 4 → 0 ≤ gTo n g ∧ gTo n g < (n.bufs.length : Int)
def popX (x : Net) (gs : List Grant) : Net := { x with bufs := popL x.bufs gs }
theorem popX_push {n x : Net} {g : Grant} {gs : List Grant} (hl : x.bufs.length = n.bufs.length) (ht : ¬ g.port = 4 → 0 ≤ gTo n g ∧ gTo n g < (n.bufs.length : Int)) (hn : (gs.map gIdx).Nodup) (hg : ∀ y ∈ gs, 0 ≤ gIdx y ∧ gIdx y < (x.bufs.length : Int) ∧ rl x.bufs (gIdx y) ≠ []) : popX (pushG n x g) gs = pushG n (popX x gs) g := by
  unfold popX pushG
  by_cases h4 : g.port = 4
  · rw [if_pos h4, if_pos h4]
  · rw [if_neg h4, if_neg h4]
    obtain ⟨t0, t1⟩ := ht h4
    have := popL_add gs (bs := x.bufs) (t := gTo n g) (f := mvF n g) t0 (by omega) hn hg
    simp only [addB] at this
    simp only [this]
theorem spec_impl {n : Net} : ∀ (gs : List Grant) (x : Net), x.bufs.length = n.bufs.length → (gs.map gIdx).Nodup → (∀ g ∈ gs, 0 ≤ gIdx g ∧ gIdx g < (x.bufs.length : Int) ∧ rl x.bufs (gIdx g) ≠ []) → GtOk n gs → specL n x gs = pushL n (popX x gs) gs := by
  intro gs
  induction gs with
  | nil => intro x _ _ _ _; rfl
  | cons g gs ih =>
    intro x hl hn hg ht
    show specL n (pushG n (popN x g) g) gs = pushL n (pushG n (popX x (g :: gs)) g) gs
    simp only [List.map_cons, List.nodup_cons] at hn
    obtain ⟨g0, g1, g2⟩ := hg g (by simp)
    have hpop : ∀ y ∈ gs, 0 ≤ gIdx y ∧ gIdx y < ((popN x g).bufs.length : Int) ∧ rl (popN x g).bufs (gIdx y) ≠ [] := by
      intro y hy
      obtain ⟨y0, y1, y2⟩ := hg y (by simp [hy])
      refine ⟨y0, by show gIdx y < ((popB x.bufs g).length : Int); rw [popB_len]; exact y1, ?_⟩
      show rl (popB x.bufs g) (gIdx y) ≠ []
      unfold popB
      rw [rl_setI g0 g1 _ y0, if_neg (fun e => hn.1 (by rw [← e]; exact List.mem_map_of_mem hy))]
      exact y2
    have hlp : (popN x g).bufs.length = n.bufs.length := by show (popB x.bufs g).length = _; rw [popB_len]; exact hl
    rw [ih (pushG n (popN x g) g) (by rw [pushG_len]; exact hlp) hn.2 ?_ (fun y hy => ht y (by simp [hy]))]
    · rw [popX_push hlp (ht g (by simp)) hn.2 hpop]
      rfl
    · intro y hy
      obtain ⟨y0, y1, y2⟩ := hpop y hy
      refine ⟨y0, by rw [pushG_len]; exact y1, ?_⟩
      rw [pushG_bufs]
      by_cases h4 : g.port = 4
      · rw [if_pos h4]; exact y2
      · rw [if_neg h4]
        obtain ⟨t0, t1⟩ := ht g (by simp) h4
        unfold addB
        rw [rl_setI t0 (by rw [hlp]; exact t1) _ y0]
        split
        · simp
        · exact y2
theorem firstTo_mem (l : List Int) (turn : Int) : ∀ k, k ≤ l.length → firstTo l turn k = -1 ∨ firstTo l turn k ∈ l := by
  intro k
  induction k with
  | zero => intro _; left; rfl
  | succ k ih =>
    intro hk
    have hx : ri l k ∈ l := by rw [ri_get l k (by omega)]; exact List.getElem_mem (by omega)
    rw [firstTo_succ l turn k (by omega)]
    unfold better
    split
    · exact .inr hx
    · split
      · exact .inr hx
      · exact ih (by omega)
theorem pick_mem {n : Net} {a p : Int} {us : List Bool} (h : 0 ≤ pick n a p us) : pick n a p us ∈ leftOf n a p us := by
  rcases firstTo_mem (leftOf n a p us) (ri n.turns (5 * a + p)) _ (Nat.le_refl _) with e | e
  · exfalso
    have : pick n a p us = -1 := e
    omega
  · exact e
theorem requests_mem {n : Net} {a p x : Int} (h : x ∈ requestsN n a p) : reqI n a x p = true ∧ 0 ≤ x ∧ x ≤ 9 := by
  refine ⟨?_, requests_small n a p x h⟩
  unfold requestsN requestsTo at h
  obtain ⟨i, hi, rfl⟩ := List.mem_map.1 h
  exact (List.mem_filter.1 hi).2
theorem pick_spec {n : Net} {a p : Int} {us : List Bool} (h : 0 ≤ pick n a p us) : requestN n a (pick n a p us) p = true ∧ 0 ≤ pick n a p us ∧ pick n a p us ≤ 9 ∧ usedAt us (pick n a p us) = false := by
  have h1 := pick_mem h
  unfold leftOf at h1
  obtain ⟨h2, h3⟩ := List.mem_filter.1 h1
  obtain ⟨h4, h5, h6⟩ := requests_mem h2
  refine ⟨?_, h5, h6, by simpa [keepU] using h3⟩
  unfold reqI at h4
  rw [Bool.and_eq_true] at h4
  exact h4.2
theorem used_set {us : List Bool} (hl : us.length = 5) {i k : Int} (i0 : 0 ≤ i) (i9 : i ≤ 9) (k0 : 0 ≤ k) (k9 : k ≤ 9) : usedAt (us.set (k / 2).toNat true) i = (decide (i / 2 = k / 2) || usedAt us i) := by
  unfold usedAt
  by_cases e : i / 2 = k / 2
  · have h : (k / 2).toNat < us.length := by omega
    rw [e]
    simp [List.getD_eq_getElem?_getD, h]
  · have : ¬ (k / 2).toNat = (i / 2).toNat := by omega
    simp [List.getD_eq_getElem?_getD, e, this]
structure GI (n : Net) (a : Int) (p : Nat) (us : List Bool) (gs : List Grant) : Prop where
  mem : ∀ g ∈ gs, g.node = a ∧ 0 ≤ g.port ∧ g.port < (p : Int) ∧ 0 ≤ g.input ∧ g.input ≤ 9 ∧ requestN n a g.input g.port = true ∧ usedAt us g.input = true
  pw : gs.Pairwise (fun g h => g.port < h.port ∧ g.input / 2 ≠ h.input / 2)
theorem gst_GI (n : Net) (a : Int) : ∀ p : Nat, GI n a p (gst n a p).1 (gst n a p).2 := by
  intro p
  induction p with
  | zero => exact ⟨fun g hg => by simp [gst] at hg, by simp [gst]⟩
  | succ p ih =>
    by_cases h0 : 0 ≤ pick n a p (gst n a p).1
    · obtain ⟨h1, h2, h3, h4⟩ := pick_spec h0
      rw [gst_yes rfl h0]
      obtain ⟨k, hk⟩ : ∃ k, pick n a p (gst n a p).1 = k := ⟨_, rfl⟩
      rw [hk] at h0 h1 h2 h3 h4 ⊢
      have hl := gst_us n a p
      refine ⟨fun g hg => ?_, ?_⟩
      · rcases List.mem_append.1 hg with hg | hg
        · obtain ⟨m1, m2, m3, m4, m5, m6, m7⟩ := ih.mem g hg
          exact ⟨m1, m2, by push_cast; omega, m4, m5, m6, by rw [used_set hl m4 m5 h2 h3, m7, Bool.or_true]⟩
        · rw [List.mem_singleton.1 hg]
          exact ⟨rfl, by show (0 : Int) ≤ p; omega, by show (p : Int) < ((p + 1 : Nat) : Int); omega, h2, h3, h1, by rw [used_set hl h2 h3 h2 h3]; simp⟩
      · rw [List.pairwise_append]
        refine ⟨ih.pw, by simp, fun g hg h hh => ?_⟩
        rw [List.mem_singleton.1 hh]
        obtain ⟨m1, m2, m3, m4, m5, m6, m7⟩ := ih.mem g hg
        refine ⟨m3, fun e => ?_⟩
        have : usedAt (gst n a p).1 g.input = usedAt (gst n a p).1 k := by
          unfold usedAt
          have e2 : g.input / 2 = k / 2 := e
          rw [e2]
        rw [m7, h4] at this
        cases this
    · rw [gst_no rfl (by omega)]
      exact ⟨fun g hg => by obtain ⟨m1, m2, m3, m4⟩ := ih.mem g hg; exact ⟨m1, m2, by push_cast; omega, m4⟩, ih.pw⟩
structure GOne (n : Net) (g : Grant) : Prop where
  nd : isNode n.mesh.g g.node = true
  p0 : 0 ≤ g.port
  p4 : g.port ≤ 4
  i0 : 0 ≤ g.input
  i9 : g.input ≤ 9
  req : requestN n g.node g.input g.port = true
def GLt (g h : Grant) : Prop := g.node < h.node ∨ (g.node = h.node ∧ g.port < h.port ∧ g.input / 2 ≠ h.input / 2)
theorem allTo_spec (n : Net) : ∀ k : Nat, (k : Int) ≤ nodeCount n.mesh.g → (∀ g ∈ allTo n k, GOne n g ∧ g.node < (k : Int)) ∧ (allTo n k).Pairwise GLt := by
  intro k
  induction k with
  | zero => intro _; simp [allTo, joinI]
  | succ k ih =>
    intro hk
    obtain ⟨ih1, ih2⟩ := ih (by omega)
    have hg := gst_GI n (k : Int) 5
    have hone : ∀ g ∈ grantsN n (k : Int), GOne n g ∧ g.node = (k : Int) := fun g hm => by
      obtain ⟨m1, m2, m3, m4, m5, m6, m7⟩ := hg.mem g hm
      refine ⟨⟨?_, m2, by omega, m4, m5, by rw [m1]; exact m6⟩, m1⟩
      rw [m1]
      exact isNode_iff.2 ⟨by omega, by omega⟩
    rw [allTo_succ]
    refine ⟨fun g hm => ?_, ?_⟩
    · rcases List.mem_append.1 hm with hm | hm
      · obtain ⟨h1, h2⟩ := ih1 g hm
        exact ⟨h1, by push_cast; omega⟩
      · obtain ⟨h1, h2⟩ := hone g hm
        exact ⟨h1, by push_cast; omega⟩
    · rw [List.pairwise_append]
      refine ⟨ih2, ?_, fun g hm h hh => ?_⟩
      · refine (hg.pw).imp_of_mem (fun {x y} hx hy hxy => ?_)
        exact .inr ⟨(hone x hx).2.trans (hone y hy).2.symm, hxy⟩
      · have h1 := (ih1 g hm).2
        have h2 := (hone h hh).2
        exact .inl (by omega)
theorem count_nat (g : Grid) : (((nodeCount g).toNat : Nat) : Int) = nodeCount g := by
  have := count_le g
  omega
theorem grants_one {n : Net} {g : Grant} (h : g ∈ allGrants n) : GOne n g := ((allTo_spec n _ (by rw [count_nat]; exact Int.le_refl _)).1 g h).1
theorem grants_pw (n : Net) : (allGrants n).Pairwise GLt := (allTo_spec n _ (by rw [count_nat]; exact Int.le_refl _)).2
theorem GOne.at {n : Net} {g : Grant} (h : GOne n g) (ok : netOk n = true) : At n g.node g.input := ⟨ok, h.nd, h.i0, h.i9⟩
theorem GOne.wants {n : Net} {g : Grant} (h : GOne n g) : wantedN n g.node g.input = g.port ∧ roomN n g.node g.port (g.input % 2) = true := by
  have := h.req
  unfold requestN at this
  rw [Bool.and_eq_true, Bool.and_eq_true, beq_iff_eq] at this
  exact ⟨this.1.1, this.1.2⟩
theorem GOne.full {n : Net} {g : Grant} (h : GOne n g) : 0 < (rl n.bufs (gIdx g)).length := wanted_len (a := g.node) (i := g.input) (by rw [h.wants.1]; exact h.p0)
theorem GOne.live {n : Net} {g : Grant} (h : GOne n g) (h4 : ¬ g.port = 4) : NoC.live n.mesh (4 * g.node + g.port) = true ∧ (rl n.bufs (gTo n g)).length < 3 := by
  have h1 := h.wants.2
  unfold roomN at h1
  rw [if_neg h4, Bool.and_eq_true, decide_eq_true_eq] at h1
  exact h1
theorem GOne.to {n : Net} {g : Grant} (h : GOne n g) (ok : netOk n = true) (h4 : ¬ g.port = 4) : 0 ≤ gTo n g ∧ gTo n g < (n.bufs.length : Int) ∧ isNode n.mesh.g (nextNode n.mesh.g g.node g.port) = true ∧ 0 ≤ nextNode n.mesh.g g.node g.port ∧ 0 ≤ opposite g.port ∧ opposite g.port ≤ 3 ∧ gTo n g = 10 * nextNode n.mesh.g g.node g.port + 2 * opposite g.port + g.input % 2 := by
  have h3 : g.port ≤ 3 := by have := h.p4; omega
  obtain ⟨b1, b2, b3, b4, b5, b6, b7⟩ := behind_idx ok h.p0 h3 (h.live h4).1 (c := g.input % 2) (by omega) (by omega)
  exact ⟨b6, b7, b1, b2, b4, b5, rfl⟩
theorem grants_GsOk {n : Net} (ok : netOk n = true) : GsOk n (allGrants n) := by
  refine ⟨?_, fun g hg => ?_, fun g hg => ?_⟩
  · unfold List.Nodup
    rw [List.pairwise_map]
    refine (grants_pw n).imp_of_mem (fun {x y} hx hy hxy => ?_)
    have hx1 := grants_one hx
    have hy1 := grants_one hy
    have := hx1.i0
    have := hx1.i9
    have := hy1.i0
    have := hy1.i9
    unfold gIdx
    rcases hxy with h | ⟨h1, h2, h3⟩
    · omega
    · intro e
      apply h3
      have : x.input = y.input := by omega
      rw [this]
  · have h := grants_one hg
    have := (h.at ok).idx
    exact ⟨this.2.2.1, this.2.2.2.1⟩
  · have h := (grants_one hg).full
    intro e
    rw [e] at h
    simp at h
theorem grants_GtOk {n : Net} (ok : netOk n = true) : GtOk n (allGrants n) := fun g hg h4 => by
  have := (grants_one hg).to ok h4
  exact ⟨this.1, this.2.1⟩
theorem specStep {n : Net} (ok : netOk n = true) : specL n n (allGrants n) = afterPush n := by
  have h := grants_GsOk ok
  exact spec_impl (allGrants n) n rfl h.nodup (fun g hg => ⟨(h.range g hg).1, (h.range g hg).2, h.full g hg⟩) (grants_GtOk ok)
theorem next_inj {g : Grid} {a b p : Int} (p0 : 0 ≤ p) (p3 : p ≤ 3) (ha : isNode g a = true) (hb : isNode g b = true) (h0 : 0 ≤ nextNode g a p) (e : nextNode g a p = nextNode g b p) : a = b := by
  have hgo : gridOk g = true := by
    unfold isNode nodeCount at ha
    cases h : gridOk g
    · rw [h] at ha
      simp [inside] at ha
      omega
    · rfl
  have ha' := isNode_iff.1 ha
  have hb' := isNode_iff.1 hb
  unfold nodeCount at ha' hb'
  rw [if_pos hgo] at ha' hb'
  have hg := hgo
  simp only [gridOk, inside, Bool.and_eq_true, decide_eq_true_eq] at hg
  obtain ⟨⟨w1, w4⟩, h1, h4⟩ := hg
  obtain ⟨w, h⟩ := g
  dsimp only at w1 w4 h1 h4 ha' hb'
  have hp : p = 0 ∨ p = 1 ∨ p = 2 ∨ p = 3 := by omega
  have hw : w = 1 ∨ w = 2 ∨ w = 3 ∨ w = 4 := by omega
  have hh : h = 1 ∨ h = 2 ∨ h = 3 ∨ h = 4 := by omega
  unfold nextNode at h0 e
  rw [if_pos ha] at h0 e
  rw [if_pos hb] at e
  unfold nodeAt at h0 e
  rw [hgo] at h0 e
  simp only [Bool.true_and, inside, Bool.and_eq_true, decide_eq_true_eq] at h0 e
  rcases hp with rfl | rfl | rfl | rfl <;> simp only [if_pos, if_neg, show ¬ (1 : Int) = 0 by omega, show ¬ (2 : Int) = 0 by omega, show ¬ (2 : Int) = 1 by omega, show ¬ (3 : Int) = 0 by omega, show ¬ (3 : Int) = 1 by omega, show ¬ (3 : Int) = 2 by omega, if_false, if_true, ite_true, ite_false] at h0 e <;> rcases hw with rfl | rfl | rfl | rfl <;> rcases hh with rfl | rfl | rfl | rfl <;> split at h0 <;> split at e <;> omega
theorem gTo_inj {n : Net} (ok : netOk n = true) {g h : Grant} (hg : GOne n g) (hh : GOne n h) (g4 : ¬ g.port = 4) (h4 : ¬ h.port = 4) (e : gTo n g = gTo n h) : g.node = h.node ∧ g.port = h.port := by
  obtain ⟨_, _, _, g1, g2, g3, ge⟩ := hg.to ok g4
  obtain ⟨_, _, _, h1, h2, h3, he⟩ := hh.to ok h4
  have gp : g.port ≤ 3 := by have := hg.p4; omega
  have hp : h.port ≤ 3 := by have := hh.p4; omega
  have og := opp_eq hg.p0 gp
  have oh := opp_eq hh.p0 hp
  have q0 := hg.p0
  have q1 := hh.p0
  have e1 : g.port = h.port := by omega
  have e2 : nextNode n.mesh.g g.node g.port = nextNode n.mesh.g h.node h.port := by omega
  rw [← e1] at e2
  exact ⟨next_inj q0 gp hg.nd hh.nd g1 e2, e1⟩
theorem row_grow (l : List (List Flit)) (k : Int) (f : Flit) (t : Nat) : (rl (l.set k.toNat (rl l k ++ [f])) t).length ≤ (rl l t).length + 1 := by
  by_cases e : k.toNat = t
  · by_cases h : t < l.length
    · have e2 : rl (l.set k.toNat (rl l k ++ [f])) t = rl l k ++ [f] := by simp [rl, List.getD_eq_getElem?_getD, e, h]
      have e3 : rl l k = rl l (t : Int) := by simp [rl, e]
      rw [e2, e3]
      simp
    · have e2 : rl (l.set k.toNat (rl l k ++ [f])) t = [] := by simp [rl, List.getD_eq_getElem?_getD, h]
      rw [e2]
      simp
  · have e2 : rl (l.set k.toNat (rl l k ++ [f])) t = rl l t := by simp [rl, List.getD_eq_getElem?_getD, e]
    rw [e2]
    omega
theorem push_rows (n x : Net) (g : Grant) (t : Nat) : (rl (pushG n x g).bufs t).length ≤ (rl x.bufs t).length + 1 ∧ (rl (pushG n x g).arrs t).length ≤ (rl x.arrs t).length + 1 := by
  unfold pushG
  split
  · exact ⟨Nat.le_succ _, row_grow _ _ _ _⟩
  · exact ⟨row_grow _ _ _ _, Nat.le_succ _⟩
theorem pushL_rows (n : Net) (t : Nat) : ∀ (gs : List Grant) (x : Net), (rl (pushL n x gs).bufs t).length ≤ (rl x.bufs t).length + gs.length ∧ (rl (pushL n x gs).arrs t).length ≤ (rl x.arrs t).length + gs.length := by
  intro gs
  induction gs with
  | nil => intro x; exact ⟨Nat.le_refl _, Nat.le_refl _⟩
  | cons g gs ih =>
    intro x
    have h1 := ih (pushG n x g)
    have h2 := push_rows n x g t
    show (rl (pushL n (pushG n x g) gs).bufs t).length ≤ _ ∧ (rl (pushL n (pushG n x g) gs).arrs t).length ≤ _
    simp only [List.length_cons]
    omega
theorem pop_rows (t : Nat) : ∀ (gs : List Grant) (bs : List (List Flit)), (rl (popL bs gs) t).length ≤ (rl bs t).length := by
  intro gs
  induction gs with
  | nil => intro bs; exact Nat.le_refl _
  | cons g gs ih =>
    intro bs
    refine Nat.le_trans (ih (popB bs g)) ?_
    unfold popB
    by_cases e : (gIdx g).toNat = t
    · by_cases h : t < bs.length
      · have e2 : rl (bs.set (gIdx g).toNat ((rl bs (gIdx g)).drop 1)) t = (rl bs (gIdx g)).drop 1 := by simp [rl, List.getD_eq_getElem?_getD, e, h]
        have e3 : rl bs (gIdx g) = rl bs (t : Int) := by simp [rl, e]
        rw [e2, e3, List.length_drop]
        omega
      · have e2 : rl (bs.set (gIdx g).toNat ((rl bs (gIdx g)).drop 1)) t = [] := by simp [rl, List.getD_eq_getElem?_getD, h]
        rw [e2]
        simp
    · have e2 : rl (bs.set (gIdx g).toNat ((rl bs (gIdx g)).drop 1)) t = rl bs t := by simp [rl, List.getD_eq_getElem?_getD, e]
      rw [e2]
      omega
theorem enterTo_spec (n : Net) : ∀ m : Nat, (∀ x ∈ enterTo n m, ∃ i : Nat, x = (i : Int) ∧ i < m ∧ enters n i = true) ∧ (enterTo n m).Pairwise (· < ·) := by
  intro m
  induction m with
  | zero => simp [enterTo]
  | succ m ih =>
    cases h : enters n m
    · rw [enterTo_no h]
      exact ⟨fun x hx => by obtain ⟨i, h1, h2, h3⟩ := ih.1 x hx; exact ⟨i, h1, by omega, h3⟩, ih.2⟩
    · rw [enterTo_yes h]
      refine ⟨fun x hx => ?_, ?_⟩
      · rcases List.mem_append.1 hx with hx | hx
        · obtain ⟨i, h1, h2, h3⟩ := ih.1 x hx
          exact ⟨i, h1, by omega, h3⟩
        · exact ⟨m, List.mem_singleton.1 hx, by omega, h⟩
      · rw [List.pairwise_append]
        refine ⟨ih.2, by simp, fun x hx y hy => ?_⟩
        obtain ⟨i, h1, h2, h3⟩ := ih.1 x hx
        rw [List.mem_singleton.1 hy, h1]
        omega
theorem enter_at {n : Net} {k : Nat} (h : k < (enteringN n).length) : ∃ i : Nat, ri (enteringN n) k = (i : Int) ∧ i < n.srcs.length ∧ enters n i = true := by
  have := (enterTo_spec n n.srcs.length).1 (ri (enteringN n) k) (by rw [ri_get _ k h]; exact List.getElem_mem h)
  obtain ⟨i, h1, h2, h3⟩ := this
  exact ⟨i, h1, h2, h3⟩
theorem enter_new {n : Net} {k : Nat} (h : k < (enteringN n).length) : ∀ x ∈ (enteringN n).take k, x ≠ ri (enteringN n) k ∧ 0 ≤ x := by
  intro x hx
  have hp : (enteringN n).Pairwise (· < ·) := (enterTo_spec n n.srcs.length).2
  have hm := (enterTo_spec n n.srcs.length).1 x (List.mem_of_mem_take hx)
  obtain ⟨j, hj, e⟩ := List.getElem_of_mem hx
  rw [List.length_take] at hj
  rw [List.getElem_take] at e
  rw [ri_get _ k h]
  have h1 := (List.pairwise_iff_getElem.1 hp) j k (by omega) h (by omega)
  obtain ⟨i, h3, _, _⟩ := hm
  exact ⟨by rw [← e]; intro e2; rw [e2] at h1; exact absurd h1 (Int.lt_irrefl _), by omega⟩
theorem enterB_srcs {n x : Net} {a b : Int} (ha : 0 ≤ a) (hb : 0 ≤ b) (hne : a ≠ b) : rl (enterB n x a).srcs b = rl x.srcs b := by
  unfold enterB
  have : ¬ a.toNat = b.toNat := by omega
  simp [rl, List.getD_eq_getElem?_getD, this]
theorem enterL_srcs {n : Net} {b : Int} (hb : 0 ≤ b) : ∀ (ks : List Int) (x : Net), (∀ a ∈ ks, a ≠ b ∧ 0 ≤ a) → rl (enterL n x ks).srcs b = rl x.srcs b := by
  intro ks
  induction ks with
  | nil => intro x _; rfl
  | cons a ks ih =>
    intro x h
    show rl (enterL n (enterB n x a) ks).srcs b = _
    rw [ih _ (fun y hy => h y (by simp [hy])), enterB_srcs (h a (by simp)).2 hb (h a (by simp)).1]
theorem pushL_srcs {n : Net} : ∀ (gs : List Grant) (x : Net), (pushL n x gs).srcs = x.srcs := by
  intro gs
  induction gs with
  | nil => intro x; rfl
  | cons g gs ih =>
    intro x
    show (pushL n (pushG n x g) gs).srcs = _
    rw [ih]
    unfold pushG
    split <;> rfl
theorem enterL_next (n x : Net) (k : Nat) (h : k < (enteringN n).length) : enterL n x ((enteringN n).take (k + 1)) = enterB n (enterL n x ((enteringN n).take k)) (ri (enteringN n) k) := by
  rw [take_nextI _ k h]
  simp [enterL]
theorem enterL_rows (n : Net) (t : Nat) : ∀ (ks : List Int) (x : Net), (rl (enterL n x ks).bufs t).length ≤ (rl x.bufs t).length + ks.length := by
  intro ks
  induction ks with
  | nil => intro x; exact Nat.le_refl _
  | cons a ks ih =>
    intro x
    have h1 := ih (enterB n x a)
    have h2 : (rl (enterB n x a).bufs t).length ≤ (rl x.bufs t).length + 1 := row_grow _ _ _ _
    show (rl (enterL n (enterB n x a) ks).bufs t).length ≤ _
    simp only [List.length_cons]
    omega
theorem enterL_time (n : Net) : ∀ (ks : List Int) (x : Net), (enterL n x ks).time = x.time ∧ (enterL n x ks).mesh = x.mesh ∧ (enterL n x ks).pa = x.pa ∧ (enterL n x ks).pb = x.pb ∧ (enterL n x ks).owners = x.owners ∧ (enterL n x ks).turns = x.turns ∧ (enterL n x ks).arrs = x.arrs := by
  intro ks
  induction ks with
  | nil => intro x; exact ⟨rfl, rfl, rfl, rfl, rfl, rfl, rfl⟩
  | cons a ks ih => intro x; exact ih (enterB n x a)
theorem pushL_same (n : Net) : ∀ (gs : List Grant) (x : Net), (pushL n x gs).time = x.time ∧ (pushL n x gs).mesh = x.mesh ∧ (pushL n x gs).pa = x.pa ∧ (pushL n x gs).pb = x.pb := by
  intro gs
  induction gs with
  | nil => intro x; exact ⟨rfl, rfl, rfl, rfl⟩
  | cons g gs ih =>
    intro x
    obtain ⟨h1, h2, h3, h4⟩ := ih (pushG n x g)
    have e : (pushG n x g).time = x.time ∧ (pushG n x g).mesh = x.mesh ∧ (pushG n x g).pa = x.pa ∧ (pushG n x g).pb = x.pb := by unfold pushG; split <;> exact ⟨rfl, rfl, rfl, rfl⟩
    exact ⟨h1.trans e.1, h2.trans e.2.1, h3.trans e.2.2.1, h4.trans e.2.2.2⟩
end NoC
namespace Go.Proofs.Ytodbglncccgdbaa
open Go.RowKit Go.Proofs.YtodbglncccgdbaaW.PrintWords
open NoC
theorem bufOk_1 {g : Grid} {i : Nat} {l : List Flit} (h : 3 < l.length) : bufOk g i l = false := by
  simp [bufOk]; omega
theorem bufOk_2 {g : Grid} {i : Nat} {l : List Flit} (h : ¬ (clsOnly l ((i % 2 : Nat) : Int)).length = l.length) : bufOk g i l = false := by
  have h2 := clsOnly_len l ((i % 2 : Nat) : Int)
  rw [beq_eq_false_iff_ne.2 h] at h2
  simp only [bufOk, ← h2, Bool.and_false, Bool.false_and]
theorem bufOk_3 {g : Grid} {i : Nat} {l : List Flit} (h : areFl g l = false) : bufOk g i l = false := by simp [bufOk, h]
theorem bufOk_4 {g : Grid} {i : Nat} {l : List Flit} (h1 : ¬ 3 < l.length) (h2 : (clsOnly l ((i % 2 : Nat) : Int)).length = l.length) (h3 : areFl g l = true) : bufOk g i l = true := by
  have h4 := clsOnly_len l ((i % 2 : Nat) : Int)
  rw [beq_iff_eq.2 h2] at h4
  simp only [bufOk, ← h4, h3, Bool.and_true, decide_eq_true_eq]
  omega
theorem srcOk_1 {g : Grid} {l : List Flit} (h : 60 < l.length) : srcOk g l = false := by
  simp [srcOk]; omega
theorem srcOk_2 {g : Grid} {l : List Flit} (h : areFl g l = false) : srcOk g l = false := by simp [srcOk, h]
theorem srcOk_3 {g : Grid} {l : List Flit} (h1 : ¬ 60 < l.length) (h : areFl g l = true) : srcOk g l = true := by
  simp only [srcOk, h, Bool.and_true, decide_eq_true_eq]
  omega
theorem mod2 (k : Nat) : ((k : Int) % 2) = ((k % 2 : Nat) : Int) := by omega
theorem netOk_eq {n : Net} (hc : classesOk n.mesh n.pa n.pb = true) (hs : shapeOk n = true) (hb : ∀ j : Nat, j < n.bufs.length → bufOk n.mesh.g j (rl n.bufs j) = true) (hr : ∀ j : Nat, j < n.srcs.length → srcOk n.mesh.g (rl n.srcs j) = true) :
    netOk n = (allI n.owners.length (fun i => inside (ri n.owners i) (-1) 4) && allI n.turns.length (fun i => inside (ri n.turns i) 0 9) && inside n.time 0 1000000) := by
  simp only [netOk, hc, hs, allI_true hb, allI_true hr, Bool.true_and]
theorem shape_mk {n : Net} (s1 : (n.bufs.length : Int) = 10 * nodeCount n.mesh.g) (s2 : (n.owners.length : Int) = 10 * nodeCount n.mesh.g) (s3 : (n.turns.length : Int) = 5 * nodeCount n.mesh.g) (s4 : (n.srcs.length : Int) = nodeCount n.mesh.g) (s5 : (n.arrs.length : Int) = nodeCount n.mesh.g) : shapeOk n = true := by
  simp only [shapeOk, s1, s2, s3, s4, s5, decide_true, Bool.and_true]
theorem netOk_no1 {n : Net} (h : classesOk n.mesh n.pa n.pb = false) : netOk n = false := by simp [netOk, h]
theorem netOk_no2 {n : Net} (h : shapeOk n = false) : netOk n = false := by simp [netOk, h]
theorem netOk_no3 {n : Net} (k : Nat) (hk : k < n.bufs.length) (h : bufOk n.mesh.g k (rl n.bufs k) = false) : netOk n = false := by simp [netOk, allI_false (p := fun (i : Nat) => bufOk n.mesh.g i (rl n.bufs i)) k hk h]
theorem netOk_no4 {n : Net} (k : Nat) (hk : k < n.srcs.length) (h : srcOk n.mesh.g (rl n.srcs k) = false) : netOk n = false := by simp [netOk, allI_false (p := fun (i : Nat) => srcOk n.mesh.g (rl n.srcs i)) k hk h]
theorem shape_no1 {n : Net} (h : ¬ (n.bufs.length : Int) = 10 * nodeCount n.mesh.g) : shapeOk n = false := by simp [shapeOk, h]
theorem shape_no2 {n : Net} (h : ¬ (n.owners.length : Int) = 10 * nodeCount n.mesh.g) : shapeOk n = false := by simp [shapeOk, h]
theorem shape_no3 {n : Net} (h : ¬ (n.turns.length : Int) = 5 * nodeCount n.mesh.g) : shapeOk n = false := by simp [shapeOk, h]
theorem shape_no4 {n : Net} (h : ¬ (n.srcs.length : Int) = nodeCount n.mesh.g) : shapeOk n = false := by simp [shapeOk, h]
theorem shape_no5 {n : Net} (h : ¬ (n.arrs.length : Int) = nodeCount n.mesh.g) : shapeOk n = false := by simp [shapeOk, h]

set_option maxHeartbeats 8000000 in
set_option maxRecDepth 100000 in
theorem impl_NetOk (n : Net) (q : NA) (w : World) (hr : NetR 102 w n q) : Calls Try.prog 33 #[.agg (netCells n q)] w fun e w' => e = .returned (.bool (netOk n)) ∧ Below w.heap.size w w' := by
 obtain ⟨a1, a2, a3, a4, a5, a6, a7, a8, c1, c2, c3, c4, c5, c6, c7, c8⟩ := q; obtain ⟨Rbr, Rpa, Rpb, Rbu, Row, Rtu, Rso, Rar, L1, L2, L3, L4, L5, L6, L7, L8, L9, L10, L11⟩ := hr; have M9 := Lib.hid L9; have M10 := Lib.hid L10; have M11 := Lib.hid L11; clear L9 L10 L11; dsimp only [netCells] at *
 obtain ⟨n0, n1⟩ := count_le n.mesh.g
 cases hc : classesOk n.mesh n.pa n.pb
 ·have HC := Lib.hid hc
  go_enter Try.func33, Try.ntmps33
  go_wp2_with (first | (go_at_call 29; refine (impl_NodeCount n.mesh.g _).mono ?_; rintro e w1 ⟨rfl, hb1⟩; obtain ⟨hc1, hf1, hz1⟩ := bcell hb1; (try simp only [szs] at hz1); have hb2 := far2; obtain ⟨hc2, hf2, hz2⟩ := bcell hb2; (try simp only [szs] at hz2); try (first | obtain ⟨hy1, hy2, hy3, hy4⟩ := lts4 hz2 | obtain ⟨hy1, hy2, hy3⟩ := lts3 hz2 | obtain ⟨hy1, hy2⟩ := lts2 hz2 | have hy1 := lts1 hz2); have hb9 := hb1) | (go_at_call 28; refine (impl_ClassesOk n.mesh n.pa n.pb a1 a2 a3 _ _ _ _ (by exact Kd.C_below Rbr bel) L1 (by exact Kd.C_below Rpa bel) L2 (by exact Kd.C_below Rpb bel) L3).mono ?_; rintro e w1 ⟨rfl, hb1⟩; obtain ⟨hc1, hf1, hz1⟩ := bcell hb1; (try simp only [szs] at hz1); have hb2 := far2; obtain ⟨hc2, hf2, hz2⟩ := bcell hb2; (try simp only [szs] at hz2); try (first | obtain ⟨hy1, hy2, hy3, hy4⟩ := lts4 hz2 | obtain ⟨hy1, hy2, hy3⟩ := lts3 hz2 | obtain ⟨hy1, hy2⟩ := lts2 hz2 | have hy1 := lts1 hz2); have hb9 := hb1))
  go_ret
  exact ⟨ret_bool (netOk_no1 HC.out).symm, bel⟩
 by_cases s0 : (n.bufs.length : Int) = 10 * nodeCount n.mesh.g
 case neg =>
  have e0 : ((n.bufs.length : Int) != 10 * nodeCount n.mesh.g) = true := bne_iff_ne.2 s0
  have S0 := Lib.hid s0
  clear s0
  go_enter Try.func33, Try.ntmps33
  go_wp2_with (first | (go_at_call 29; refine (impl_NodeCount n.mesh.g _).mono ?_; rintro e w1 ⟨rfl, hb1⟩; obtain ⟨hc1, hf1, hz1⟩ := bcell hb1; (try simp only [szs] at hz1); have hb2 := far2; obtain ⟨hc2, hf2, hz2⟩ := bcell hb2; (try simp only [szs] at hz2); try (first | obtain ⟨hy1, hy2, hy3, hy4⟩ := lts4 hz2 | obtain ⟨hy1, hy2, hy3⟩ := lts3 hz2 | obtain ⟨hy1, hy2⟩ := lts2 hz2 | have hy1 := lts1 hz2); have hb9 := hb1) | (go_at_call 28; refine (impl_ClassesOk n.mesh n.pa n.pb a1 a2 a3 _ _ _ _ (by exact Kd.C_below Rbr bel) L1 (by exact Kd.C_below Rpa bel) L2 (by exact Kd.C_below Rpb bel) L3).mono ?_; rintro e w1 ⟨rfl, hb1⟩; obtain ⟨hc1, hf1, hz1⟩ := bcell hb1; (try simp only [szs] at hz1); have hb2 := far2; obtain ⟨hc2, hf2, hz2⟩ := bcell hb2; (try simp only [szs] at hz2); try (first | obtain ⟨hy1, hy2, hy3, hy4⟩ := lts4 hz2 | obtain ⟨hy1, hy2, hy3⟩ := lts3 hz2 | obtain ⟨hy1, hy2⟩ := lts2 hz2 | have hy1 := lts1 hz2); have hb9 := hb1))
  go_ret
  exact ⟨ret_bool (netOk_no2 (shape_no1 S0.out)).symm, bel⟩
 have e0 : ((n.bufs.length : Int) != 10 * nodeCount n.mesh.g) = false := bne_eq_false_iff_eq.2 s0
 have S0 := Lib.hid s0
 have u0 : (n.bufs.length : Int) ≤ 10 * nodeCount n.mesh.g := by omega
 have v0 : 10 * nodeCount n.mesh.g ≤ (n.bufs.length : Int) := by omega
 clear s0
 by_cases s1 : (n.owners.length : Int) = 10 * nodeCount n.mesh.g
 case neg =>
  have e1 : ((n.owners.length : Int) != 10 * nodeCount n.mesh.g) = true := bne_iff_ne.2 s1
  have S1 := Lib.hid s1
  clear s1
  go_enter Try.func33, Try.ntmps33
  go_wp2_with (first | (go_at_call 29; refine (impl_NodeCount n.mesh.g _).mono ?_; rintro e w1 ⟨rfl, hb1⟩; obtain ⟨hc1, hf1, hz1⟩ := bcell hb1; (try simp only [szs] at hz1); have hb2 := far2; obtain ⟨hc2, hf2, hz2⟩ := bcell hb2; (try simp only [szs] at hz2); try (first | obtain ⟨hy1, hy2, hy3, hy4⟩ := lts4 hz2 | obtain ⟨hy1, hy2, hy3⟩ := lts3 hz2 | obtain ⟨hy1, hy2⟩ := lts2 hz2 | have hy1 := lts1 hz2); have hb9 := hb1) | (go_at_call 28; refine (impl_ClassesOk n.mesh n.pa n.pb a1 a2 a3 _ _ _ _ (by exact Kd.C_below Rbr bel) L1 (by exact Kd.C_below Rpa bel) L2 (by exact Kd.C_below Rpb bel) L3).mono ?_; rintro e w1 ⟨rfl, hb1⟩; obtain ⟨hc1, hf1, hz1⟩ := bcell hb1; (try simp only [szs] at hz1); have hb2 := far2; obtain ⟨hc2, hf2, hz2⟩ := bcell hb2; (try simp only [szs] at hz2); try (first | obtain ⟨hy1, hy2, hy3, hy4⟩ := lts4 hz2 | obtain ⟨hy1, hy2, hy3⟩ := lts3 hz2 | obtain ⟨hy1, hy2⟩ := lts2 hz2 | have hy1 := lts1 hz2); have hb9 := hb1))
  go_ret
  exact ⟨ret_bool (netOk_no2 (shape_no2 S1.out)).symm, bel⟩
 have e1 : ((n.owners.length : Int) != 10 * nodeCount n.mesh.g) = false := bne_eq_false_iff_eq.2 s1
 have S1 := Lib.hid s1
 have u1 : (n.owners.length : Int) ≤ 10 * nodeCount n.mesh.g := by omega
 have v1 : 10 * nodeCount n.mesh.g ≤ (n.owners.length : Int) := by omega
 clear s1
 by_cases s2 : (n.turns.length : Int) = 5 * nodeCount n.mesh.g
 case neg =>
  have e2 : ((n.turns.length : Int) != 5 * nodeCount n.mesh.g) = true := bne_iff_ne.2 s2
  have S2 := Lib.hid s2
  clear s2
  go_enter Try.func33, Try.ntmps33
  go_wp2_with (first | (go_at_call 29; refine (impl_NodeCount n.mesh.g _).mono ?_; rintro e w1 ⟨rfl, hb1⟩; obtain ⟨hc1, hf1, hz1⟩ := bcell hb1; (try simp only [szs] at hz1); have hb2 := far2; obtain ⟨hc2, hf2, hz2⟩ := bcell hb2; (try simp only [szs] at hz2); try (first | obtain ⟨hy1, hy2, hy3, hy4⟩ := lts4 hz2 | obtain ⟨hy1, hy2, hy3⟩ := lts3 hz2 | obtain ⟨hy1, hy2⟩ := lts2 hz2 | have hy1 := lts1 hz2); have hb9 := hb1) | (go_at_call 28; refine (impl_ClassesOk n.mesh n.pa n.pb a1 a2 a3 _ _ _ _ (by exact Kd.C_below Rbr bel) L1 (by exact Kd.C_below Rpa bel) L2 (by exact Kd.C_below Rpb bel) L3).mono ?_; rintro e w1 ⟨rfl, hb1⟩; obtain ⟨hc1, hf1, hz1⟩ := bcell hb1; (try simp only [szs] at hz1); have hb2 := far2; obtain ⟨hc2, hf2, hz2⟩ := bcell hb2; (try simp only [szs] at hz2); try (first | obtain ⟨hy1, hy2, hy3, hy4⟩ := lts4 hz2 | obtain ⟨hy1, hy2, hy3⟩ := lts3 hz2 | obtain ⟨hy1, hy2⟩ := lts2 hz2 | have hy1 := lts1 hz2); have hb9 := hb1))
  go_ret
  exact ⟨ret_bool (netOk_no2 (shape_no3 S2.out)).symm, bel⟩
 have e2 : ((n.turns.length : Int) != 5 * nodeCount n.mesh.g) = false := bne_eq_false_iff_eq.2 s2
 have S2 := Lib.hid s2
 have u2 : (n.turns.length : Int) ≤ 5 * nodeCount n.mesh.g := by omega
 have v2 : 5 * nodeCount n.mesh.g ≤ (n.turns.length : Int) := by omega
 clear s2
 by_cases s3 : (n.srcs.length : Int) = nodeCount n.mesh.g
 case neg =>
  have e3 : ((n.srcs.length : Int) != nodeCount n.mesh.g) = true := bne_iff_ne.2 s3
  have S3 := Lib.hid s3
  clear s3
  go_enter Try.func33, Try.ntmps33
  go_wp2_with (first | (go_at_call 29; refine (impl_NodeCount n.mesh.g _).mono ?_; rintro e w1 ⟨rfl, hb1⟩; obtain ⟨hc1, hf1, hz1⟩ := bcell hb1; (try simp only [szs] at hz1); have hb2 := far2; obtain ⟨hc2, hf2, hz2⟩ := bcell hb2; (try simp only [szs] at hz2); try (first | obtain ⟨hy1, hy2, hy3, hy4⟩ := lts4 hz2 | obtain ⟨hy1, hy2, hy3⟩ := lts3 hz2 | obtain ⟨hy1, hy2⟩ := lts2 hz2 | have hy1 := lts1 hz2); have hb9 := hb1) | (go_at_call 28; refine (impl_ClassesOk n.mesh n.pa n.pb a1 a2 a3 _ _ _ _ (by exact Kd.C_below Rbr bel) L1 (by exact Kd.C_below Rpa bel) L2 (by exact Kd.C_below Rpb bel) L3).mono ?_; rintro e w1 ⟨rfl, hb1⟩; obtain ⟨hc1, hf1, hz1⟩ := bcell hb1; (try simp only [szs] at hz1); have hb2 := far2; obtain ⟨hc2, hf2, hz2⟩ := bcell hb2; (try simp only [szs] at hz2); try (first | obtain ⟨hy1, hy2, hy3, hy4⟩ := lts4 hz2 | obtain ⟨hy1, hy2, hy3⟩ := lts3 hz2 | obtain ⟨hy1, hy2⟩ := lts2 hz2 | have hy1 := lts1 hz2); have hb9 := hb1))
  go_ret
  exact ⟨ret_bool (netOk_no2 (shape_no4 S3.out)).symm, bel⟩
 have e3 : ((n.srcs.length : Int) != nodeCount n.mesh.g) = false := bne_eq_false_iff_eq.2 s3
 have S3 := Lib.hid s3
 have u3 : (n.srcs.length : Int) ≤ nodeCount n.mesh.g := by omega
 have v3 : nodeCount n.mesh.g ≤ (n.srcs.length : Int) := by omega
 clear s3
 by_cases s4 : (n.arrs.length : Int) = nodeCount n.mesh.g
 case neg =>
  have e4 : ((n.arrs.length : Int) != nodeCount n.mesh.g) = true := bne_iff_ne.2 s4
  have S4 := Lib.hid s4
  clear s4
  go_enter Try.func33, Try.ntmps33
  go_wp2_with (first | (go_at_call 29; refine (impl_NodeCount n.mesh.g _).mono ?_; rintro e w1 ⟨rfl, hb1⟩; obtain ⟨hc1, hf1, hz1⟩ := bcell hb1; (try simp only [szs] at hz1); have hb2 := far2; obtain ⟨hc2, hf2, hz2⟩ := bcell hb2; (try simp only [szs] at hz2); try (first | obtain ⟨hy1, hy2, hy3, hy4⟩ := lts4 hz2 | obtain ⟨hy1, hy2, hy3⟩ := lts3 hz2 | obtain ⟨hy1, hy2⟩ := lts2 hz2 | have hy1 := lts1 hz2); have hb9 := hb1) | (go_at_call 28; refine (impl_ClassesOk n.mesh n.pa n.pb a1 a2 a3 _ _ _ _ (by exact Kd.C_below Rbr bel) L1 (by exact Kd.C_below Rpa bel) L2 (by exact Kd.C_below Rpb bel) L3).mono ?_; rintro e w1 ⟨rfl, hb1⟩; obtain ⟨hc1, hf1, hz1⟩ := bcell hb1; (try simp only [szs] at hz1); have hb2 := far2; obtain ⟨hc2, hf2, hz2⟩ := bcell hb2; (try simp only [szs] at hz2); try (first | obtain ⟨hy1, hy2, hy3, hy4⟩ := lts4 hz2 | obtain ⟨hy1, hy2, hy3⟩ := lts3 hz2 | obtain ⟨hy1, hy2⟩ := lts2 hz2 | have hy1 := lts1 hz2); have hb9 := hb1))
  go_ret
  exact ⟨ret_bool (netOk_no2 (shape_no5 S4.out)).symm, bel⟩
 have e4 : ((n.arrs.length : Int) != nodeCount n.mesh.g) = false := bne_eq_false_iff_eq.2 s4
 have S4 := Lib.hid s4
 have u4 : (n.arrs.length : Int) ≤ nodeCount n.mesh.g := by omega
 have v4 : nodeCount n.mesh.g ≤ (n.arrs.length : Int) := by omega
 clear s4
 have HSH := Lib.hid (shape_mk S0.out S1.out S2.out S3.out S4.out)
 have HC := Lib.hid hc
 go_enter Try.func33, Try.ntmps33
 go_wp2_with (first | (go_at_call 29; refine (impl_NodeCount n.mesh.g _).mono ?_; rintro e w1 ⟨rfl, hb1⟩; obtain ⟨hc1, hf1, hz1⟩ := bcell hb1; (try simp only [szs] at hz1); have hb2 := far2; obtain ⟨hc2, hf2, hz2⟩ := bcell hb2; (try simp only [szs] at hz2); try (first | obtain ⟨hy1, hy2, hy3, hy4⟩ := lts4 hz2 | obtain ⟨hy1, hy2, hy3⟩ := lts3 hz2 | obtain ⟨hy1, hy2⟩ := lts2 hz2 | have hy1 := lts1 hz2); have hb9 := hb1) | (go_at_call 28; refine (impl_ClassesOk n.mesh n.pa n.pb a1 a2 a3 _ _ _ _ (by exact Kd.C_below Rbr bel) L1 (by exact Kd.C_below Rpa bel) L2 (by exact Kd.C_below Rpb bel) L3).mono ?_; rintro e w1 ⟨rfl, hb1⟩; obtain ⟨hc1, hf1, hz1⟩ := bcell hb1; (try simp only [szs] at hz1); have hb2 := far2; obtain ⟨hc2, hf2, hz2⟩ := bcell hb2; (try simp only [szs] at hz2); try (first | obtain ⟨hy1, hy2, hy3, hy4⟩ := lts4 hz2 | obtain ⟨hy1, hy2, hy3⟩ := lts3 hz2 | obtain ⟨hy1, hy2⟩ := lts2 hz2 | have hy1 := lts1 hz2); have hb9 := hb1))
 go_loopw [59] (fun i wr => ∃ k : Nat, i = .int .i64 k ∧ k ≤ n.bufs.length ∧ Hid (∀ j : Nat, j < k → bufOk n.mesh.g j (rl n.bufs j) = true) ∧ Below (w.alloc (.cells #[.int .i64 n.mesh.g.w, .int .i64 n.mesh.g.h, .slice a1 n.mesh.br.length c1, .slice a2 n.pa.length c2, .slice a3 n.pb.length c3, .slice a4 n.bufs.length c4, .slice a5 n.owners.length c5, .slice a6 n.turns.length c6, .slice a7 n.srcs.length c7, .slice a8 n.arrs.length c8, .int .i64 n.time] 38)).heap.size (w.alloc (.cells #[.int .i64 n.mesh.g.w, .int .i64 n.mesh.g.h, .slice a1 n.mesh.br.length c1, .slice a2 n.pa.length c2, .slice a3 n.pb.length c3, .slice a4 n.bufs.length c4, .slice a5 n.owners.length c5, .slice a6 n.turns.length c6, .slice a7 n.srcs.length c7, .slice a8 n.arrs.length c8, .int .i64 n.time] 38)) wr) (fun i _ => n.bufs.length - (intOf i).toNat)
 case atStart => exact ⟨0, rfl, Nat.zero_le _, Lib.hid fun j h => absurd h (Nat.not_lt_zero _), bel⟩
 case round =>
  obtain ⟨k, rfl, hk, HA, HB⟩ := hrel
  obtain ⟨hcr, hfr, hzr⟩ := bcell HB
  simp only [szs] at hzr
  have yy1 := lts1 hzr
  by_cases hlt : k < n.bufs.length
  ·obtain ⟨b, off, rfl, hb, Ai, ci, p0, hle, hCi⟩ := rdB_at Rbu k hlt
   obtain ⟨z1, z2, z3, z4, z5, z6⟩ := more hb
   have hki := M9.out _ (rl_mem hlt)
   have i0 : (k : Int) < (n.bufs.length : Int) := by omega
   by_cases g1 : 3 < (rl n.bufs k).length
   ·have g1' : (3 : Int) < ((rl n.bufs k).length : Int) := by omega
    go_wp2
    go_ret
    exact ⟨ret_bool (netOk_no3 k hlt (bufOk_1 g1)).symm, bel⟩
   have g1' : ¬ (3 : Int) < ((rl n.bufs k).length : Int) := by omega
   have hco := clsOnly_take_len (rl n.bufs k) ((k : Int) % 2) (rl n.bufs k).length
   rw [List.take_length] at hco
   by_cases g2 : (clsOnly (rl n.bufs k) ((k % 2 : Nat) : Int)).length = (rl n.bufs k).length
   case neg =>
    have G2 := Lib.hid g2
    rw [← mod2] at g2
    have f2 : (((clsOnly (rl n.bufs k) ((k : Int) % 2)).length : Int) != ((rl n.bufs k).length : Int)) = true := bne_iff_ne.2 (by omega)
    clear g2
    go_wp2_with (go_at_call 60; refine (impl_ClassOnly (rl n.bufs k) ((k : Int) % 2) Ai ci _ (by exact Kd.C_below hCi bel) hki).mono ?_; rintro e w1 ⟨hg1, hb1⟩; obtain ⟨A1, d1, rfl, hk1, hC1⟩ := hg1.read; obtain ⟨hc1, hf1, hz1⟩ := bcell hb1; (try simp only [szs] at hz1); have hb2 := far2; obtain ⟨hc2, hf2, hz2⟩ := bcell hb2; (try simp only [szs] at hz2); try (first | obtain ⟨hy1, hy2, hy3, hy4⟩ := lts4 hz2 | obtain ⟨hy1, hy2, hy3⟩ := lts3 hz2 | obtain ⟨hy1, hy2⟩ := lts2 hz2 | have hy1 := lts1 hz2); have hb9 := hb1)
    go_ret
    exact ⟨ret_bool (netOk_no3 k hlt (bufOk_2 G2.out)).symm, bel⟩
   have G2 := Lib.hid g2
   rw [← mod2] at g2
   have f2 : (((clsOnly (rl n.bufs k) ((k : Int) % 2)).length : Int) != ((rl n.bufs k).length : Int)) = false := bne_eq_false_iff_eq.2 (by omega)
   clear g2
   cases h3 : areFl n.mesh.g (rl n.bufs k)
   ·have H3 := Lib.hid h3
    go_wp2_with (first | (go_at_call 60; refine (impl_ClassOnly (rl n.bufs k) ((k : Int) % 2) Ai ci _ (by exact Kd.C_below hCi bel) hki).mono ?_; rintro e w1 ⟨hg1, hb1⟩; obtain ⟨A1, d1, rfl, hk1, hC1⟩ := hg1.read; obtain ⟨hc1, hf1, hz1⟩ := bcell hb1; (try simp only [szs] at hz1); have hb2 := far2; obtain ⟨hc2, hf2, hz2⟩ := bcell hb2; (try simp only [szs] at hz2); try (first | obtain ⟨hy1, hy2, hy3, hy4⟩ := lts4 hz2 | obtain ⟨hy1, hy2, hy3⟩ := lts3 hz2 | obtain ⟨hy1, hy2⟩ := lts2 hz2 | have hy1 := lts1 hz2); have hb9 := hb1) | (go_at_call 61; refine (impl_areFlits n.mesh.g (rl n.bufs k) Ai ci _ (by exact Kd.C_below hCi bel) hki).mono ?_; rintro e w1 ⟨rfl, hb1⟩; obtain ⟨hc1, hf1, hz1⟩ := bcell hb1; (try simp only [szs] at hz1); have hb2 := far2; obtain ⟨hc2, hf2, hz2⟩ := bcell hb2; (try simp only [szs] at hz2); try (first | obtain ⟨hy1, hy2, hy3, hy4⟩ := lts4 hz2 | obtain ⟨hy1, hy2, hy3⟩ := lts3 hz2 | obtain ⟨hy1, hy2⟩ := lts2 hz2 | have hy1 := lts1 hz2); have hb9 := hb1))
    go_ret
    exact ⟨ret_bool (netOk_no3 k hlt (bufOk_3 H3.out)).symm, bel⟩
   ·have H3 := Lib.hid h3
    go_wp2_with (first | (go_at_call 60; refine (impl_ClassOnly (rl n.bufs k) ((k : Int) % 2) Ai ci _ (by exact Kd.C_below hCi bel) hki).mono ?_; rintro e w1 ⟨hg1, hb1⟩; obtain ⟨A1, d1, rfl, hk1, hC1⟩ := hg1.read; obtain ⟨hc1, hf1, hz1⟩ := bcell hb1; (try simp only [szs] at hz1); have hb2 := far2; obtain ⟨hc2, hf2, hz2⟩ := bcell hb2; (try simp only [szs] at hz2); try (first | obtain ⟨hy1, hy2, hy3, hy4⟩ := lts4 hz2 | obtain ⟨hy1, hy2, hy3⟩ := lts3 hz2 | obtain ⟨hy1, hy2⟩ := lts2 hz2 | have hy1 := lts1 hz2); have hb9 := hb1) | (go_at_call 61; refine (impl_areFlits n.mesh.g (rl n.bufs k) Ai ci _ (by exact Kd.C_below hCi bel) hki).mono ?_; rintro e w1 ⟨rfl, hb1⟩; obtain ⟨hc1, hf1, hz1⟩ := bcell hb1; (try simp only [szs] at hz1); have hb2 := far2; obtain ⟨hc2, hf2, hz2⟩ := bcell hb2; (try simp only [szs] at hz2); try (first | obtain ⟨hy1, hy2, hy3, hy4⟩ := lts4 hz2 | obtain ⟨hy1, hy2, hy3⟩ := lts3 hz2 | obtain ⟨hy1, hy2⟩ := lts2 hz2 | have hy1 := lts1 hz2); have hb9 := hb1))
    go_roundw
    case rel => exact ⟨k + 1, by go_num, by omega, Lib.hid (upto HA.out (bufOk_4 g1 G2.out H3.out)), bel⟩
    case measure => simp [intOf]; omega
  ·have i0 : ¬ (k : Int) < (n.bufs.length : Int) := by omega
   have HBU : Hid (∀ j : Nat, j < n.bufs.length → bufOk n.mesh.g j (rl n.bufs j) = true) := Lib.hid fun j hj => HA.out j (by omega)
   go_wp2
   go_loopw [89] (fun i wr => ∃ k : Nat, i = .int .i64 k ∧ k ≤ n.srcs.length ∧ Hid (∀ j : Nat, j < k → srcOk n.mesh.g (rl n.srcs j) = true) ∧ Below (w.alloc (.cells #[.int .i64 n.mesh.g.w, .int .i64 n.mesh.g.h, .slice a1 n.mesh.br.length c1, .slice a2 n.pa.length c2, .slice a3 n.pb.length c3, .slice a4 n.bufs.length c4, .slice a5 n.owners.length c5, .slice a6 n.turns.length c6, .slice a7 n.srcs.length c7, .slice a8 n.arrs.length c8, .int .i64 n.time] 38)).heap.size (w.alloc (.cells #[.int .i64 n.mesh.g.w, .int .i64 n.mesh.g.h, .slice a1 n.mesh.br.length c1, .slice a2 n.pa.length c2, .slice a3 n.pb.length c3, .slice a4 n.bufs.length c4, .slice a5 n.owners.length c5, .slice a6 n.turns.length c6, .slice a7 n.srcs.length c7, .slice a8 n.arrs.length c8, .int .i64 n.time] 38)) wr) (fun i _ => n.srcs.length - (intOf i).toNat)
   case atStart => exact ⟨0, rfl, Nat.zero_le _, Lib.hid fun j h => absurd h (Nat.not_lt_zero _), bel⟩
   case round =>
    clear HA HB hcr hfr hzr yy1 hlt i0 hk
    obtain ⟨k, rfl, hk, HA, HB⟩ := hrel
    obtain ⟨hcr, hfr, hzr⟩ := bcell HB
    simp only [szs] at hzr
    have yy1 := lts1 hzr
    by_cases hlt : k < n.srcs.length
    ·obtain ⟨b, off, rfl, hb, Ai, ci, p0, hle, hCi⟩ := rdB_at Rso k hlt
     obtain ⟨z1, z2, z3, z4, z5, z6⟩ := more hb
     have hki := M10.out _ (rl_mem hlt)
     have i0 : (k : Int) < (n.srcs.length : Int) := by omega
     by_cases g1 : 60 < (rl n.srcs k).length
     ·have g1' : (60 : Int) < ((rl n.srcs k).length : Int) := by omega
      go_wp2
      go_ret
      exact ⟨ret_bool (netOk_no4 k hlt (srcOk_1 g1)).symm, bel⟩
     have g1' : ¬ (60 : Int) < ((rl n.srcs k).length : Int) := by omega
     cases h3 : areFl n.mesh.g (rl n.srcs k)
     ·have H3 := Lib.hid h3
      go_wp2_with (go_at_call 61; refine (impl_areFlits n.mesh.g (rl n.srcs k) Ai ci _ (by exact Kd.C_below hCi bel) hki).mono ?_; rintro e w1 ⟨rfl, hb1⟩; obtain ⟨hc1, hf1, hz1⟩ := bcell hb1; (try simp only [szs] at hz1); have hb2 := far2; obtain ⟨hc2, hf2, hz2⟩ := bcell hb2; (try simp only [szs] at hz2); try (first | obtain ⟨hy1, hy2, hy3, hy4⟩ := lts4 hz2 | obtain ⟨hy1, hy2, hy3⟩ := lts3 hz2 | obtain ⟨hy1, hy2⟩ := lts2 hz2 | have hy1 := lts1 hz2); have hb9 := hb1)
      go_ret
      exact ⟨ret_bool (netOk_no4 k hlt (srcOk_2 H3.out)).symm, bel⟩
     ·have H3 := Lib.hid h3
      go_wp2_with (go_at_call 61; refine (impl_areFlits n.mesh.g (rl n.srcs k) Ai ci _ (by exact Kd.C_below hCi bel) hki).mono ?_; rintro e w1 ⟨rfl, hb1⟩; obtain ⟨hc1, hf1, hz1⟩ := bcell hb1; (try simp only [szs] at hz1); have hb2 := far2; obtain ⟨hc2, hf2, hz2⟩ := bcell hb2; (try simp only [szs] at hz2); try (first | obtain ⟨hy1, hy2, hy3, hy4⟩ := lts4 hz2 | obtain ⟨hy1, hy2, hy3⟩ := lts3 hz2 | obtain ⟨hy1, hy2⟩ := lts2 hz2 | have hy1 := lts1 hz2); have hb9 := hb1)
      go_roundw
      case rel => exact ⟨k + 1, by go_num, by omega, Lib.hid (upto HA.out (srcOk_3 g1 H3.out)), bel⟩
      case measure => simp [intOf]; omega
    ·have i0 : ¬ (k : Int) < (n.srcs.length : Int) := by omega
     have HE := Lib.hid (netOk_eq HC.out HSH.out HBU.out (fun j hj => HA.out j (by omega)))
     cases t1 : allI n.owners.length (fun i => inside (ri n.owners i) (-1) 4)
     ·have T1 := Lib.hid t1
      go_wp2_with (go_at_call_of 62 n.owners; refine (impl_areInside n.owners (-1) 4 a5 c5 _ (by exact Kd.C_below Row bel) L5).mono ?_; rintro e w' ⟨rfl, rfl⟩)
      go_ret
      exact ⟨ret_bool (by rw [HE.out, T1.out]; rfl), bel⟩
     cases t2 : allI n.turns.length (fun i => inside (ri n.turns i) 0 9)
     ·have T1 := Lib.hid t1
      have T2 := Lib.hid t2
      go_wp2_with (first | (go_at_call_of 62 n.owners; refine (impl_areInside n.owners (-1) 4 a5 c5 _ (by exact Kd.C_below Row bel) L5).mono ?_; rintro e w' ⟨rfl, rfl⟩) | (go_at_call_of 62 n.turns; refine (impl_areInside n.turns 0 9 a6 c6 _ (by exact Kd.C_below Rtu bel) L6).mono ?_; rintro e w' ⟨rfl, rfl⟩))
      go_ret
      exact ⟨ret_bool (by rw [HE.out, T1.out, T2.out]; rfl), bel⟩
     ·have T1 := Lib.hid t1
      have T2 := Lib.hid t2
      go_wp2_with (first | (go_at_call_of 62 n.owners; refine (impl_areInside n.owners (-1) 4 a5 c5 _ (by exact Kd.C_below Row bel) L5).mono ?_; rintro e w' ⟨rfl, rfl⟩) | (go_at_call_of 62 n.turns; refine (impl_areInside n.turns 0 9 a6 c6 _ (by exact Kd.C_below Rtu bel) L6).mono ?_; rintro e w' ⟨rfl, rfl⟩) | (go_at_call 63; refine (impl_inside _ _ _ _).mono ?_; rintro e w' ⟨rfl, rfl⟩))
      go_ret
      exact ⟨ret_bool (by rw [HE.out, T1.out, T2.out]; rfl), bel⟩
theorem rdB_int {e : Nat} {w : World} {A : Option Addr} {l : List (List Flit)} (h : (kB e).C w A l.length l) (i : Int) (h0 : 0 ≤ i) (h1 : i < (l.length : Int)) :
    ∃ b off, A = some ⟨b, off, none⟩ ∧ b < w.heap.size ∧ ∃ Ai ci, w.cell? ⟨b, off + i.toNat, none⟩ = some (.slice Ai (rl l i).length ci) ∧ (rl l i).length ≤ ci ∧ kF.C w Ai (rl l i).length (rl l i) := by
  obtain ⟨b, off, e1, hb, Ai, ci, h2, h3, h4⟩ := rdB_at h i.toNat (by omega)
  rw [Int.toNat_of_nonneg h0] at h2 h3 h4
  exact ⟨b, off, e1, hb, Ai, ci, h2, h3, h4⟩
theorem rdI_int {w : World} {A : Option Addr} {l : List Int} (h : Kd.C (Kd.int .i64) w A l.length l) (i : Int) (h0 : 0 ≤ i) (h1 : i < (l.length : Int)) :
    ∃ b off, A = some ⟨b, off, none⟩ ∧ b < w.heap.size ∧ w.cell? ⟨b, off + i.toNat, none⟩ = some (.int .i64 (ri l i)) := by
  obtain ⟨b, off, e1, hb, h2⟩ := rdI_at h i.toNat (by omega)
  have h3 := h2 i.toNat (by omega)
  rw [Int.toNat_of_nonneg h0] at h3
  exact ⟨b, off, e1, hb, h3⟩
theorem rdFl_0 {w : World} {A : Option Addr} {l : List Flit} (h : kF.C w A l.length l) (h0 : 0 < l.length) :
    ∃ b off, A = some ⟨b, off, none⟩ ∧ b < w.heap.size ∧ w.cell? ⟨b, off, none⟩ = some (.int .i64 (rf l 0).pk) ∧ w.cell? ⟨b, off + 1, none⟩ = some (.int .i64 (rf l 0).dst) ∧ w.cell? ⟨b, off + 2, none⟩ = some (.int .i64 (rf l 0).cls) ∧ w.cell? ⟨b, off + 3, none⟩ = some (.bool (rf l 0).head) ∧ w.cell? ⟨b, off + 4, none⟩ = some (.bool (rf l 0).tail) := by
  obtain ⟨b, off, e, hb, p0, p1, p2, p3, p4⟩ := rdFl_at h 0 h0
  simp only [Nat.zero_mul, Nat.add_zero] at p0 p1 p2 p3 p4
  exact ⟨b, off, e, hb, p0, p1, p2, p3, p4⟩
theorem impl_BufferAt (a p c : Int) (w : World) (h0 : 0 ≤ a) (h1 : a ≤ 15) (h2 : 0 ≤ p) (h3 : p ≤ 4) (h4 : 0 ≤ c) (h5 : c ≤ 1) :
    Calls Try.prog 68 #[.int .i64 a, .int .i64 p, .int .i64 c] w fun e w' => e = .returned (.int .i64 (10 * a + 2 * p + c)) ∧ w = w' := by
  have i1 : inside a 0 15 = true := inside_iff.2 ⟨h0, h1⟩
  have i2 : inside p 0 4 = true := inside_iff.2 ⟨h2, h3⟩
  have i3 : inside c 0 1 = true := inside_iff.2 ⟨h4, h5⟩
  go_enter Try.func68, Try.ntmps68
  go_wp2_with (first | (go_at_call 63; refine (impl_inside _ _ _ _).mono ?_; rintro e w' ⟨rfl, rfl⟩) | (go_at_call 78; refine (spec_l01In _ _ _ _).mono ?_; rintro e w' ⟨rfl, rfl⟩))
  go_ret
  exact ⟨ret_int (by omega), rfl⟩
set_option maxHeartbeats 4000000 in
set_option maxRecDepth 100000 in
theorem impl_wanted (n : Net) (q : NA) (bx : Nat) (a i : Int) (w : World) (hr : NetR 102 w n q) (hx : Box w bx (netCells n q)) (ha : At n a i) :
  Calls Try.prog 122 #[.pointer (some ⟨bx, 0, none⟩), .int .i64 a, .int .i64 i] w fun e w' => e = .returned (.int .i64 (wantedN n a i)) ∧ Below w.heap.size w w' := by
 obtain ⟨a1, a2, a3, a4, a5, a6, a7, a8, c1, c2, c3, c4, c5, c6, c7, c8⟩ := q; obtain ⟨Rbr, Rpa, Rpb, Rbu, Row, Rtu, Rso, Rar, L1, L2, L3, L4, L5, L6, L7, L8, L9, L10, L11⟩ := hr; have M9 := Lib.hid L9; have M10 := Lib.hid L10; have M11 := Lib.hid L11; clear L9 L10 L11; dsimp only [netCells] at *
 have xl := hx.lt; have x0 : w.cell? ⟨bx, 0, none⟩ = some (.int .i64 n.mesh.g.w) := hx.get 0; have x1 : w.cell? ⟨bx, 1, none⟩ = some (.int .i64 n.mesh.g.h) := hx.get 1; have x2 : w.cell? ⟨bx, 2, none⟩ = some (.slice a1 n.mesh.br.length c1) := hx.get 2; have x3 : w.cell? ⟨bx, 3, none⟩ = some (.slice a2 n.pa.length c2) := hx.get 3; have x4 : w.cell? ⟨bx, 4, none⟩ = some (.slice a3 n.pb.length c3) := hx.get 4; have x5 : w.cell? ⟨bx, 5, none⟩ = some (.slice a4 n.bufs.length c4) := hx.get 5; have x6 : w.cell? ⟨bx, 6, none⟩ = some (.slice a5 n.owners.length c5) := hx.get 6; have x7 : w.cell? ⟨bx, 7, none⟩ = some (.slice a6 n.turns.length c6) := hx.get 7; have x8 : w.cell? ⟨bx, 8, none⟩ = some (.slice a7 n.srcs.length c7) := hx.get 8; have x9 : w.cell? ⟨bx, 9, none⟩ = some (.slice a8 n.arrs.length c8) := hx.get 9; have x10 : w.cell? ⟨bx, 10, none⟩ = some (.int .i64 n.time) := hx.get 10; clear hx
 have HA := Lib.hid ha
 obtain ⟨a0, a15, j0, j1, j2, j3, j4, j5⟩ := ha.idx
 have i0 := ha.i0
 have i9 := ha.i9
 clear ha
 by_cases hl : (bufOf n a i).length = 0
 ·have HW := Lib.hid (wanted_1 hl)
  unfold bufOf at hl
  obtain ⟨b, off, rfl, hb, Ai, ci, p0, hle, hCi⟩ := rdB_int Rbu (10 * a + i) j0 j1
  obtain ⟨l, el⟩ : ∃ l, rl n.bufs (10 * a + i) = l := ⟨_, rfl⟩
  rw [el] at hl p0 hle hCi
  have hl' : ((l.length : Int) == 0) = true := by simp [hl]
  have HL := Lib.hid hl
  clear hl el
  go_enter Try.func122, Try.ntmps122
  go_wp2
  go_ret
  exact ⟨ret_int HW.out.symm, bel⟩
 have hl0 : 0 < (bufOf n a i).length := by omega
 obtain ⟨hn1, hn2⟩ := HA.out.buf0 hl0
 have HN1 := Lib.hid hn1
 have HN2 := Lib.hid hn2
 clear hn1 hn2 hl
 cases hh : (rf (bufOf n a i) 0).head
 ·have HW := Lib.hid (wanted_3 hl0 hh)
  unfold bufOf at hl0 hh
  obtain ⟨b, off, rfl, hb, Ai, ci, p0, hle, hCi⟩ := rdB_int Rbu (10 * a + i) j0 j1
  obtain ⟨b1, o1, rfl, hb1, q0, q1, q2, q3, q4⟩ := rdFl_0 hCi hl0
  obtain ⟨l, el⟩ : ∃ l, rl n.bufs (10 * a + i) = l := ⟨_, rfl⟩
  rw [el] at hl0 hh p0 hle q0 q1 q2 q3 q4
  have hl' : ((l.length : Int) == 0) = false := by simp; intro h; simp [h] at hl0
  have hl1 : (0 : Int) < (l.length : Int) := by omega
  rw [hh] at q3
  clear hCi el hh
  go_enter Try.func122, Try.ntmps122
  go_wp2
  go_loopw [8] (fun j wr => ∃ k : Nat, j = .int .i64 k ∧ k ≤ 5 ∧ Hid (∀ j : Nat, j < k → ¬ ownAt n a j (i % 2) = i / 2) ∧ Below w.heap.size w wr) (fun j _ => 5 - (intOf j).toNat)
  case atStart => exact ⟨0, rfl, Nat.zero_le _, Lib.hid fun j h => absurd h (Nat.not_lt_zero _), bel⟩
  case round =>
   obtain ⟨k, rfl, hk, HK, HB⟩ := hrel
   obtain ⟨hcr, hfr, hzr⟩ := bcell HB
   by_cases hlt : k < 5
   ·have k0 : (k : Int) ≤ 4 := by omega
    have m0 : 0 ≤ 10 * a + 2 * (k : Int) + i % 2 := by omega
    have m1 : 10 * a + 2 * (k : Int) + i % 2 < (n.owners.length : Int) := by omega
    obtain ⟨b5, o5, rfl, hb5, r0⟩ := rdI_int Row (10 * a + 2 * (k : Int) + i % 2) m0 m1
    obtain ⟨o, ho⟩ : ∃ o, ri n.owners (10 * a + 2 * (k : Int) + i % 2) = o := ⟨_, rfl⟩
    rw [ho] at r0
    have HO := Lib.hid (show ownAt n a k (i % 2) = o from ho)
    clear ho
    by_cases e1 : o = i / 2
    ·have f1 : (o == i / 2) = true := beq_iff_eq.2 e1
     have E1 := Lib.hid (ownPort_yes (n := n) (a := a) (i := i) k hlt (HO.out.trans e1) HK.out)
     clear e1
     go_wp2_with fail
     refine wp_region_far (w) (by kernel_rfl) (by kernel_rfl) bel ?_
     have hqc := far_cell (w)
     have hqf := far_frozen (w)
     repeat (first | go_big_quiet_step ((go_at_call 68; exact far_same (impl_BufferAt a k (i % 2) _ (by omega) (by omega) (by omega) (by omega) (by omega) (by omega)))) | quiet_step ((go_at_call 68; exact far_same (impl_BufferAt a k (i % 2) _ (by omega) (by omega) (by omega) (by omega) (by omega) (by omega)))))
     refine wpQuiet_nil ?_
     intro wq hbq
     clear hqc hqf
     obtain ⟨hcq, hfq, hzq⟩ := bcell hbq
     try simp only [szs] at hzq
     go_wp2
     go_ret
     exact ⟨ret_int (by rw [HW.out, E1.out]), bel⟩
    ·have f1 : (o == i / 2) = false := beq_eq_false_iff_ne.2 e1
     have E1 : Hid (¬ ownAt n a k (i % 2) = i / 2) := Lib.hid (fun h => e1 (HO.out.symm.trans h))
     clear e1
     go_wp2_with fail
     refine wp_region_far (w) (by kernel_rfl) (by kernel_rfl) bel ?_
     have hqc := far_cell (w)
     have hqf := far_frozen (w)
     repeat (first | go_big_quiet_step ((go_at_call 68; exact far_same (impl_BufferAt a k (i % 2) _ (by omega) (by omega) (by omega) (by omega) (by omega) (by omega)))) | quiet_step ((go_at_call 68; exact far_same (impl_BufferAt a k (i % 2) _ (by omega) (by omega) (by omega) (by omega) (by omega) (by omega)))))
     refine wpQuiet_nil ?_
     intro wq hbq
     clear hqc hqf
     obtain ⟨hcq, hfq, hzq⟩ := bcell hbq
     try simp only [szs] at hzq
     go_wp2
     go_roundw
     case rel => exact ⟨k + 1, by go_num, by omega, Lib.hid (upto HK.out E1.out), bel⟩
     case measure => simp [intOf]; omega
   ·have k0 : ¬ (k : Int) ≤ 4 := by omega
    go_wp2
    go_ret
    exact ⟨ret_int (by rw [HW.out, ownPort_no (fun j hj => HK.out j (by omega))]), bel⟩
 ·have HW := Lib.hid (wanted_2 hl0 hh)
  have HP := Lib.hid (portAt_entry (ok_tab HA.out.ok (i % 2)) HA.out.nd HN1.out)
  unfold bufOf at hl0 hh
  obtain ⟨b, off, rfl, hb, Ai, ci, p0, hle, hCi⟩ := rdB_int Rbu (10 * a + i) j0 j1
  obtain ⟨b1, o1, rfl, hb1, q0, q1, q2, q3, q4⟩ := rdFl_0 hCi hl0
  obtain ⟨l, el⟩ : ∃ l, rl n.bufs (10 * a + i) = l := ⟨_, rfl⟩
  unfold bufOf at HN2 HP HW
  rw [el] at hl0 hh p0 hle q0 q1 q2 q3 q4 HN2 HP HW
  have hl' : ((l.length : Int) == 0) = false := by simp; intro h; simp [h] at hl0
  have hl1 : (0 : Int) < (l.length : Int) := by omega
  rw [hh] at q3
  clear hCi el hh
  obtain ⟨c, ec⟩ : ∃ c, (rf l 0).cls = c := ⟨_, rfl⟩
  rw [ec] at q2 HN2
  clear ec
  by_cases hc : c = 1
  ·have hc1 : (c == 1) = true := beq_iff_eq.2 hc
   have HT : Hid (tabOf n.pa n.pb (i % 2) = n.pb) := Lib.hid (by rw [← HN2.out, hc]; rfl)
   rw [HT.out] at HP HW
   clear hc
   go_enter Try.func122, Try.ntmps122
   go_wp2_with fail
   go_region_held3 (fun w' => Below (w).heap.size (w) w' ∧ ∀ bq oq, bq < (w).heap.size → w'.cell? ⟨bq, oq, none⟩ = (w).cell? ⟨bq, oq, none⟩) (first | exact far_of bel) ( first | (go_at_call 43; refine (impl_tableFor_b n.pa n.pb a2 a3 c2 c3 c hc1 _).mono ?_; rintro e w1 ⟨rfl, hb1⟩; obtain ⟨hc1, hf1, hz1⟩ := bcell hb1; (try simp only [szs] at hz1); have hb2 := far2; obtain ⟨hc2, hf2, hz2⟩ := bcell hb2; (try simp only [szs] at hz2); try (first | obtain ⟨hy1, hy2, hy3, hy4⟩ := lts4 hz2 | obtain ⟨hy1, hy2, hy3⟩ := lts3 hz2 | obtain ⟨hy1, hy2⟩ := lts2 hz2 | have hy1 := lts1 hz2); have hb9 := hb1) | (go_at_call 74; refine (impl_PortAt n.mesh n.pb a (rf l 0).dst a1 a3 _ _ _ (by exact Kd.C_below Rbr bel) L1 (by exact Kd.C_below Rpb bel) L3).mono ?_; rintro e w1 ⟨rfl, hb1⟩; obtain ⟨hc1, hf1, hz1⟩ := bcell hb1; (try simp only [szs] at hz1); have hb2 := far2; obtain ⟨hc2, hf2, hz2⟩ := bcell hb2; (try simp only [szs] at hz2); try (first | obtain ⟨hy1, hy2, hy3, hy4⟩ := lts4 hz2 | obtain ⟨hy1, hy2, hy3⟩ := lts3 hz2 | obtain ⟨hy1, hy2⟩ := lts2 hz2 | have hy1 := lts1 hz2); have hb9 := hb1))
   go_wp2
   go_ret
   exact ⟨ret_int (by rw [HW.out, HP.out]), bel⟩
  ·have hc1 : (c == 1) = false := beq_eq_false_iff_ne.2 hc
   have HT : Hid (tabOf n.pa n.pb (i % 2) = n.pa) := Lib.hid (by rw [← HN2.out]; exact if_neg hc)
   rw [HT.out] at HP HW
   clear hc
   go_enter Try.func122, Try.ntmps122
   go_wp2_with fail
   go_region_held3 (fun w' => Below (w).heap.size (w) w' ∧ ∀ bq oq, bq < (w).heap.size → w'.cell? ⟨bq, oq, none⟩ = (w).cell? ⟨bq, oq, none⟩) (first | exact far_of bel) ( first | (go_at_call 43; refine (impl_tableFor_a n.pa n.pb a2 a3 c2 c3 c hc1 _).mono ?_; rintro e w1 ⟨rfl, hb1⟩; obtain ⟨hc1, hf1, hz1⟩ := bcell hb1; (try simp only [szs] at hz1); have hb2 := far2; obtain ⟨hc2, hf2, hz2⟩ := bcell hb2; (try simp only [szs] at hz2); try (first | obtain ⟨hy1, hy2, hy3, hy4⟩ := lts4 hz2 | obtain ⟨hy1, hy2, hy3⟩ := lts3 hz2 | obtain ⟨hy1, hy2⟩ := lts2 hz2 | have hy1 := lts1 hz2); have hb9 := hb1) | (go_at_call 74; refine (impl_PortAt n.mesh n.pa a (rf l 0).dst a1 a2 _ _ _ (by exact Kd.C_below Rbr bel) L1 (by exact Kd.C_below Rpa bel) L2).mono ?_; rintro e w1 ⟨rfl, hb1⟩; obtain ⟨hc1, hf1, hz1⟩ := bcell hb1; (try simp only [szs] at hz1); have hb2 := far2; obtain ⟨hc2, hf2, hz2⟩ := bcell hb2; (try simp only [szs] at hz2); try (first | obtain ⟨hy1, hy2, hy3, hy4⟩ := lts4 hz2 | obtain ⟨hy1, hy2, hy3⟩ := lts3 hz2 | obtain ⟨hy1, hy2⟩ := lts2 hz2 | have hy1 := lts1 hz2); have hb9 := hb1))
   go_wp2
   go_ret
   exact ⟨ret_int (by rw [HW.out, HP.out]), bel⟩
set_option maxHeartbeats 4000000 in
theorem impl_behind (n : Net) (q : NA) (bx : Nat) (a p c : Int) (w : World) (hr : NetR 102 w n q) (hx : Box w bx (netCells n q)) (ok : netOk n = true) (nd : isNode n.mesh.g a = true) (p0 : 0 ≤ p) (p4 : p ≤ 4) (g0 : 0 ≤ c) (g1 : c ≤ 1) :
    Calls Try.prog 67 #[.pointer (some ⟨bx, 0, none⟩), .int .i64 a, .int .i64 p, .int .i64 c] w fun e w' => e = .returned (.int .i64 (behindN n a p c)) ∧ Below w.heap.size w w' := by
  obtain ⟨_, _, _, a15⟩ := node_bounds nd
  have a0 := (isNode_iff.1 nd).1
  have OK := Lib.hid ok
  have ND := Lib.hid nd
  clear nd ok
  obtain ⟨a1, a2, a3, a4, a5, a6, a7, a8, c1, c2, c3, c4, c5, c6, c7, c8⟩ := q; obtain ⟨Rbr, Rpa, Rpb, Rbu, Row, Rtu, Rso, Rar, L1, L2, L3, L4, L5, L6, L7, L8, L9, L10, L11⟩ := hr; have M9 := Lib.hid L9; have M10 := Lib.hid L10; have M11 := Lib.hid L11; clear L9 L10 L11; dsimp only [netCells] at *
  have xl := hx.lt; have x0 : w.cell? ⟨bx, 0, none⟩ = some (.int .i64 n.mesh.g.w) := hx.get 0; have x1 : w.cell? ⟨bx, 1, none⟩ = some (.int .i64 n.mesh.g.h) := hx.get 1; have x2 : w.cell? ⟨bx, 2, none⟩ = some (.slice a1 n.mesh.br.length c1) := hx.get 2; have x3 : w.cell? ⟨bx, 3, none⟩ = some (.slice a2 n.pa.length c2) := hx.get 3; have x4 : w.cell? ⟨bx, 4, none⟩ = some (.slice a3 n.pb.length c3) := hx.get 4; have x5 : w.cell? ⟨bx, 5, none⟩ = some (.slice a4 n.bufs.length c4) := hx.get 5; have x6 : w.cell? ⟨bx, 6, none⟩ = some (.slice a5 n.owners.length c5) := hx.get 6; have x7 : w.cell? ⟨bx, 7, none⟩ = some (.slice a6 n.turns.length c6) := hx.get 7; have x8 : w.cell? ⟨bx, 8, none⟩ = some (.slice a7 n.srcs.length c7) := hx.get 8; have x9 : w.cell? ⟨bx, 9, none⟩ = some (.slice a8 n.arrs.length c8) := hx.get 9; have x10 : w.cell? ⟨bx, 10, none⟩ = some (.int .i64 n.time) := hx.get 10; clear hx
  by_cases h4 : p = 4
  · subst h4
    go_enter Try.func67, Try.ntmps67
    go_wp2
    go_ret
    exact ⟨rfl, bel⟩
  have p3 : p ≤ 3 := by omega
  have e4 : (p == 4) = false := beq_eq_false_iff_ne.2 h4
  clear h4 p4
  cases hl : live n.mesh (4 * a + p)
  · have HN : Hid (behindN n a p c = -1) := Lib.hid (by rw [behindN, if_neg (by omega), if_neg (by simp [hl])])
    go_enter Try.func67, Try.ntmps67
    go_wp2_with (go_at_call 98; refine (impl_live n.mesh (4 * a + p) a1 _ _ (by exact Kd.C_below Rbr bel) L1).mono ?_; rintro e w1 ⟨rfl, hb1⟩; obtain ⟨hc1, hf1, hz1⟩ := bcell hb1; (try simp only [szs] at hz1); have hb2 := far2; obtain ⟨hc2, hf2, hz2⟩ := bcell hb2; (try simp only [szs] at hz2); try (first | obtain ⟨hy1, hy2, hy3, hy4⟩ := lts4 hz2 | obtain ⟨hy1, hy2, hy3⟩ := lts3 hz2 | obtain ⟨hy1, hy2⟩ := lts2 hz2 | have hy1 := lts1 hz2); have hb9 := hb1)
    go_ret
    exact ⟨ret_int HN.out.symm, bel⟩
  · have HN : Hid (behindN n a p c = 10 * nextNode n.mesh.g a p + 2 * opposite p + c) := Lib.hid (by rw [behindN, if_neg (by omega), if_pos hl]; rfl)
    obtain ⟨_, v0, v1, v2, v3, _, _⟩ := behind_idx (c := c) OK.out p0 p3 hl g0 g1
    go_enter Try.func67, Try.ntmps67
    go_wp2_with (first | (go_at_call 98; refine (impl_live n.mesh (4 * a + p) a1 _ _ (by exact Kd.C_below Rbr bel) L1).mono ?_; rintro e w1 ⟨rfl, hb1⟩; obtain ⟨hc1, hf1, hz1⟩ := bcell hb1; (try simp only [szs] at hz1); have hb2 := far2; obtain ⟨hc2, hf2, hz2⟩ := bcell hb2; (try simp only [szs] at hz2); try (first | obtain ⟨hy1, hy2, hy3, hy4⟩ := lts4 hz2 | obtain ⟨hy1, hy2, hy3⟩ := lts3 hz2 | obtain ⟨hy1, hy2⟩ := lts2 hz2 | have hy1 := lts1 hz2); have hb9 := hb1) | (go_at_call 76; refine (impl_endOf n.mesh a p a1 _ _ ND.out p0 p3).mono ?_; rintro e w1 ⟨rfl, hb1⟩; obtain ⟨hc1, hf1, hz1⟩ := bcell hb1; (try simp only [szs] at hz1); have hb2 := far2; obtain ⟨hc2, hf2, hz2⟩ := bcell hb2; (try simp only [szs] at hz2); try (first | obtain ⟨hy1, hy2, hy3, hy4⟩ := lts4 hz2 | obtain ⟨hy1, hy2, hy3⟩ := lts3 hz2 | obtain ⟨hy1, hy2⟩ := lts2 hz2 | have hy1 := lts1 hz2); have hb9 := hb1) | (go_at_call 99; refine (impl_Opposite p _).mono ?_; rintro e w1 ⟨rfl, hb1⟩; obtain ⟨hc1, hf1, hz1⟩ := bcell hb1; (try simp only [szs] at hz1); have hb2 := far2; obtain ⟨hc2, hf2, hz2⟩ := bcell hb2; (try simp only [szs] at hz2); try (first | obtain ⟨hy1, hy2, hy3, hy4⟩ := lts4 hz2 | obtain ⟨hy1, hy2, hy3⟩ := lts3 hz2 | obtain ⟨hy1, hy2⟩ := lts2 hz2 | have hy1 := lts1 hz2); have hb9 := hb1) | (go_at_call 68; refine (impl_BufferAt _ _ c _ v0 v1 v2 (by omega) g0 g1).mono ?_; rintro e w' ⟨rfl, rfl⟩))
    go_ret
    exact ⟨ret_int HN.out.symm, bel⟩
set_option maxHeartbeats 4000000 in
theorem impl_hasRoom (n : Net) (q : NA) (bx : Nat) (a p c : Int) (w : World) (hr : NetR 102 w n q) (hx : Box w bx (netCells n q)) (ok : netOk n = true) (nd : isNode n.mesh.g a = true) (p0 : 0 ≤ p) (p4 : p ≤ 4) (g0 : 0 ≤ c) (g1 : c ≤ 1) :
    Calls Try.prog 123 #[.pointer (some ⟨bx, 0, none⟩), .int .i64 a, .int .i64 p, .int .i64 c] w fun e w' => e = .returned (.bool (roomN n a p c)) ∧ Below w.heap.size w w' := by
  have R := Lib.hid hr
  have X := Lib.hid hx
  have OK := Lib.hid ok
  have ND := Lib.hid nd
  clear ok nd
  obtain ⟨a1, a2, a3, a4, a5, a6, a7, a8, c1, c2, c3, c4, c5, c6, c7, c8⟩ := q; obtain ⟨Rbr, Rpa, Rpb, Rbu, Row, Rtu, Rso, Rar, L1, L2, L3, L4, L5, L6, L7, L8, L9, L10, L11⟩ := hr; have M9 := Lib.hid L9; have M10 := Lib.hid L10; have M11 := Lib.hid L11; clear L9 L10 L11; dsimp only [netCells] at *
  have xl := hx.lt; have x0 : w.cell? ⟨bx, 0, none⟩ = some (.int .i64 n.mesh.g.w) := hx.get 0; have x1 : w.cell? ⟨bx, 1, none⟩ = some (.int .i64 n.mesh.g.h) := hx.get 1; have x2 : w.cell? ⟨bx, 2, none⟩ = some (.slice a1 n.mesh.br.length c1) := hx.get 2; have x3 : w.cell? ⟨bx, 3, none⟩ = some (.slice a2 n.pa.length c2) := hx.get 3; have x4 : w.cell? ⟨bx, 4, none⟩ = some (.slice a3 n.pb.length c3) := hx.get 4; have x5 : w.cell? ⟨bx, 5, none⟩ = some (.slice a4 n.bufs.length c4) := hx.get 5; have x6 : w.cell? ⟨bx, 6, none⟩ = some (.slice a5 n.owners.length c5) := hx.get 6; have x7 : w.cell? ⟨bx, 7, none⟩ = some (.slice a6 n.turns.length c6) := hx.get 7; have x8 : w.cell? ⟨bx, 8, none⟩ = some (.slice a7 n.srcs.length c7) := hx.get 8; have x9 : w.cell? ⟨bx, 9, none⟩ = some (.slice a8 n.arrs.length c8) := hx.get 9; have x10 : w.cell? ⟨bx, 10, none⟩ = some (.int .i64 n.time) := hx.get 10; clear hx
  by_cases h4 : p = 4
  · subst h4
    go_enter Try.func123, Try.ntmps123
    go_wp2
    go_ret
    exact ⟨rfl, bel⟩
  have p3 : p ≤ 3 := by omega
  have e4 : (p == 4) = false := beq_eq_false_iff_ne.2 h4
  clear h4
  cases hl : live n.mesh (4 * a + p)
  · have HN := Lib.hid (room_no (c := c) p3 hl)
    have HB : Hid (behindN n a p c = -1) := Lib.hid (by rw [behindN, if_neg (by omega), if_neg (by simp [hl])])
    go_enter Try.func123, Try.ntmps123
    go_wp2_with (go_at_call 67; refine (impl_behind n _ bx a p c _ R.out X.out OK.out ND.out p0 p4 g0 g1).mono ?_; rintro e w1 ⟨he, hb1⟩; rw [HB.out] at he; subst he; obtain ⟨hc1, hf1, hz1⟩ := bcell hb1; (try simp only [szs] at hz1); have hb2 := far2; obtain ⟨hc2, hf2, hz2⟩ := bcell hb2; (try simp only [szs] at hz2); try (first | obtain ⟨hy1, hy2, hy3, hy4⟩ := lts4 hz2 | obtain ⟨hy1, hy2, hy3⟩ := lts3 hz2 | obtain ⟨hy1, hy2⟩ := lts2 hz2 | have hy1 := lts1 hz2); have hb9 := hb1)
    go_ret
    exact ⟨ret_bool HN.out.symm, bel⟩
  · have HN := Lib.hid (room_yes (c := c) p3 hl)
    have HB : Hid (behindN n a p c = behindI n a p c) := Lib.hid (by rw [behindN, if_neg (by omega), if_pos hl])
    obtain ⟨_, _, _, _, _, v4, v5⟩ := behind_idx (c := c) OK.out p0 p3 hl g0 g1
    obtain ⟨t, ht⟩ : ∃ t, behindI n a p c = t := ⟨_, rfl⟩
    rw [ht] at HN HB v4 v5
    clear ht
    obtain ⟨b, off, rfl, hb, Ai, ci, r0, hle, hCi⟩ := rdB_int Rbu t v4 v5
    by_cases h3 : (rl n.bufs t).length < 3
    · have f3 : ((rl n.bufs t).length : Int) < 3 := by omega
      have H3 := Lib.hid h3
      go_enter Try.func123, Try.ntmps123
      go_wp2_with (go_at_call 67; refine (impl_behind n _ bx a p c _ R.out X.out OK.out ND.out p0 p4 g0 g1).mono ?_; rintro e w1 ⟨he, hb1⟩; rw [HB.out] at he; subst he; obtain ⟨hc1, hf1, hz1⟩ := bcell hb1; (try simp only [szs] at hz1); have hb2 := far2; obtain ⟨hc2, hf2, hz2⟩ := bcell hb2; (try simp only [szs] at hz2); try (first | obtain ⟨hy1, hy2, hy3, hy4⟩ := lts4 hz2 | obtain ⟨hy1, hy2, hy3⟩ := lts3 hz2 | obtain ⟨hy1, hy2⟩ := lts2 hz2 | have hy1 := lts1 hz2); have hb9 := hb1)
      go_ret
      exact ⟨ret_bool (by rw [HN.out, decide_eq_true H3.out]), bel⟩
    · have f3 : ¬ ((rl n.bufs t).length : Int) < 3 := by omega
      have H3 := Lib.hid h3
      go_enter Try.func123, Try.ntmps123
      go_wp2_with (go_at_call 67; refine (impl_behind n _ bx a p c _ R.out X.out OK.out ND.out p0 p4 g0 g1).mono ?_; rintro e w1 ⟨he, hb1⟩; rw [HB.out] at he; subst he; obtain ⟨hc1, hf1, hz1⟩ := bcell hb1; (try simp only [szs] at hz1); have hb2 := far2; obtain ⟨hc2, hf2, hz2⟩ := bcell hb2; (try simp only [szs] at hz2); try (first | obtain ⟨hy1, hy2, hy3, hy4⟩ := lts4 hz2 | obtain ⟨hy1, hy2, hy3⟩ := lts3 hz2 | obtain ⟨hy1, hy2⟩ := lts2 hz2 | have hy1 := lts1 hz2); have hb9 := hb1)
      go_ret
      exact ⟨ret_bool (by rw [HN.out, decide_eq_false H3.out]; exact decide_eq_false (by omega)), bel⟩
end Go.Proofs.Ytodbglncccgdbaa
