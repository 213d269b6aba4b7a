/- Plain laws on walks that arrive, and on the loads of packets; no program, no memory. -/
import Derived.Test.YtinnfahmfggghaaM3
set_option linter.unusedVariables false
namespace NoC

/-- A walk that arrives. -/
inductive Path (m : Mesh) (t : List Int) (b : Int) : Int → List Int → Prop
  | here (h : entry m t b b = 4) : Path m t b b []
  | step {a : Int} {ws : List Int} (h4 : ¬ entry m t a b = 4) (hi : inside (entry m t a b) 0 3 = true) (hl : live m (4 * a + entry m t a b) = true) (h : Path m t b (nextNode m.g a (entry m t a b)) ws) : Path m t b a ((4 * a + entry m t a b) :: ws)
theorem walkF_path {m : Mesh} {t : List Int} {b : Int} : ∀ (k : Nat) (a : Int) (out : List Int), walkF m t b k a out ≠ [] → ∃ ws, walkF m t b k a out = out ++ ws ∧ Path m t b a ws := by
  intro k
  induction k with
  | zero => intro a out h; exact absurd rfl h
  | succ k ih =>
    intro a out h
    unfold walkF at h ⊢
    by_cases h4 : entry m t a b = 4
    · rw [if_pos h4] at h ⊢
      by_cases e : a = b
      · subst e
        rw [if_pos rfl]
        exact ⟨[], by simp, Path.here h4⟩
      · rw [if_neg e] at h
        exact absurd rfl h
    · rw [if_neg h4] at h ⊢
      by_cases hc : (inside (entry m t a b) 0 3 && live m (4 * a + entry m t a b)) = true
      · rw [if_pos hc] at h ⊢
        obtain ⟨ws, e, hp⟩ := ih _ _ h
        rw [Bool.and_eq_true] at hc
        exact ⟨(4 * a + entry m t a b) :: ws, by rw [e]; simp, Path.step h4 hc.1 hc.2 hp⟩
      · rw [if_neg hc] at h
        exact absurd rfl h
theorem Path.det {m : Mesh} {t : List Int} {b a : Int} {ws : List Int} (h : Path m t b a ws) : ∀ {vs : List Int}, Path m t b a vs → ws = vs := by
  induction h with
  | here h =>
    intro vs hv
    cases hv
    · rfl
    · rename_i h4 _ _ _
      first | exact absurd h h4 | exact absurd h (by assumption)
  | step h4 hi hl h ih =>
    intro vs hv
    cases hv
    · rename_i h'
      exact absurd h' h4
    · rename_i h'
      rw [ih h']
theorem Path.suffix {m : Mesh} {t : List Int} {b a : Int} {ws : List Int} (h : Path m t b a ws) : ∀ {u v : List Int} {c : Int}, ws = u ++ c :: v → Path m t b (c / 4) (c :: v) := by
  induction h with
  | here h => intro u v c e; simp at e
  | @step a ws h4 hi hl h ih =>
    intro u v c e
    cases u with
    | nil =>
      simp only [List.nil_append, List.cons.injEq] at e
      obtain ⟨rfl, rfl⟩ := e
      rw [inside_iff] at hi
      rw [show (4 * a + entry m t a b) / 4 = a by omega]
      exact Path.step h4 (inside_iff.2 hi) hl h
    | cons x u =>
      simp only [List.cons_append, List.cons.injEq] at e
      exact ih e.2
theorem Path.nodup {m : Mesh} {t : List Int} {b a : Int} {ws : List Int} (h : Path m t b a ws) : ws.Nodup := by
  induction h with
  | here h => simp
  | @step a ws h4 hi hl h ih =>
    rw [List.nodup_cons]
    refine ⟨fun hm => ?_, ih⟩
    obtain ⟨u, v, e⟩ := List.append_of_mem hm
    have hp := Path.step h4 hi hl h
    have hs := hp.suffix (u := (4 * a + entry m t a b) :: u) (v := v) (c := 4 * a + entry m t a b) (by rw [e]; simp)
    rw [inside_iff] at hi
    rw [show (4 * a + entry m t a b) / 4 = a by omega] at hs
    have := hp.det hs
    simp only [List.cons.injEq, true_and] at this
    rw [this] at e
    have := congrArg List.length e
    simp at this
    omega
theorem Path.live {m : Mesh} {t : List Int} {b a : Int} {ws : List Int} (h : Path m t b a ws) : ∀ c ∈ ws, NoC.live m c = true := by
  induction h with
  | here h => simp
  | step h4 hi hl h ih =>
    intro c hc
    rcases List.mem_cons.1 hc with rfl | hc
    · exact hl
    · exact ih c hc
theorem live_range {m : Mesh} {c : Int} (h : live m c = true) : 0 ≤ c ∧ c < 4 * nodeCount m.g := by
  simp only [live, leads, Bool.and_eq_true, inside_iff] at h
  omega
theorem wt_path {m : Mesh} {t : List Int} {a b : Int} : (wt m t a b = []) ∨ Path m t b a (wt m t a b) := by
  unfold wt
  split
  · by_cases h : walk m t a b = []
    · exact .inl h
    · obtain ⟨ws, e, hp⟩ := walkF_path _ _ _ h
      right
      unfold walk
      rw [e]
      exact hp
  · exact .inl rfl
theorem wt_nodup (m : Mesh) (t : List Int) (a b : Int) : (wt m t a b).Nodup := by
  rcases wt_path (m := m) (t := t) (a := a) (b := b) with h | h
  · rw [h]; simp
  · exact h.nodup
theorem wt_range {m : Mesh} {t : List Int} {a b c : Int} (h : c ∈ wt m t a b) : 0 ≤ c ∧ c < 4 * nodeCount m.g := by
  rcases wt_path (m := m) (t := t) (a := a) (b := b) with e | hp
  · rw [e] at h; simp at h
  · exact live_range (hp.live c h)

/-- Both tables and all packets are valid. -/
def arePk (m : Mesh) (pa pb : List Int) (l : List Packet) : Bool := classesOk m pa pb && l.all (packetOk m.g)
theorem rp_get (l : List Packet) (k : Nat) (h : k < l.length) : rp l (k : Int) = l[k] := by
  simp [rp, List.getD_eq_getElem?_getD, h]
theorem all_no {l : List Packet} {g : Grid} (k : Nat) (hk : k < l.length) (h : packetOk g (rp l k) = false) : l.all (packetOk g) = false := by
  rw [rp_get l k hk] at h
  rw [Bool.eq_false_iff]
  intro ha
  rw [List.all_eq_true] at ha
  rw [ha _ (List.getElem_mem hk)] at h
  cases h
theorem all_yes {l : List Packet} {g : Grid} (h : ∀ k : Nat, k < l.length → packetOk g (rp l k) = true) : l.all (packetOk g) = true := by
  rw [List.all_eq_true]
  intro p hp
  obtain ⟨k, hk, rfl⟩ := List.getElem_of_mem hp
  have := h k hk
  rwa [rp_get l k hk] at this
theorem all_get {l : List Packet} {g : Grid} (h : l.all (packetOk g) = true) (k : Nat) (hk : k < l.length) : packetOk g (rp l k) = true := by
  rw [rp_get l k hk]
  exact List.all_eq_true.1 h _ (List.getElem_mem hk)
theorem take_snoc (l : List Packet) (k : Nat) (hk : k < l.length) : l.take (k + 1) = l.take k ++ [rp l k] := by
  rw [rp_get l k hk, List.take_succ_eq_append_getElem hk]
/-- What packets add to the load of a channel. -/
def addsTo (m : Mesh) (pa pb : List Int) (p : Packet) (c : Int) : Int := if has (walkP m pa pb p) c then p.len else 0
def loadAt (m : Mesh) (pa pb : List Int) (l : List Packet) (c : Int) : Int := l.foldl (fun s p => s + addsTo m pa pb p c) 0
def chans (m : Mesh) : Nat := (4 * nodeCount m.g).toNat
def loadsL (m : Mesh) (pa pb : List Int) (l : List Packet) : List Int := (List.range (chans m)).map (fun (c : Nat) => loadAt m pa pb l (c : Int))
theorem loadAt_snoc (m : Mesh) (pa pb : List Int) (l : List Packet) (p : Packet) (c : Int) : loadAt m pa pb (l ++ [p]) c = loadAt m pa pb l c + addsTo m pa pb p c := by
  simp [loadAt]
theorem loadAt_take (m : Mesh) (pa pb : List Int) (l : List Packet) (k : Nat) (hk : k < l.length) (c : Int) : loadAt m pa pb (l.take (k + 1)) c = loadAt m pa pb (l.take k) c + addsTo m pa pb (rp l k) c := by
  rw [take_snoc l k hk, loadAt_snoc]
theorem loadsL_len (m : Mesh) (pa pb : List Int) (l : List Packet) : (loadsL m pa pb l).length = chans m := by simp [loadsL]
theorem loadsL_get (m : Mesh) (pa pb : List Int) (l : List Packet) (j : Nat) (h : j < chans m) : ri (loadsL m pa pb l) j = loadAt m pa pb l j := by
  rw [ri_get _ j (by rw [loadsL_len]; exact h)]
  simp [loadsL]
theorem addsTo_range {m : Mesh} {pa pb : List Int} {p : Packet} (h : packetOk m.g p = true) (c : Int) : 0 ≤ addsTo m pa pb p c ∧ addsTo m pa pb p c ≤ 5 := by
  have := packetOk_len h
  unfold addsTo
  split <;> omega
theorem loadAt_range {m : Mesh} {pa pb : List Int} {l : List Packet} (h : l.all (packetOk m.g) = true) (c : Int) : ∀ k, k ≤ l.length → 0 ≤ loadAt m pa pb (l.take k) c ∧ loadAt m pa pb (l.take k) c ≤ 5 * k := by
  intro k
  induction k with
  | zero => intro _; simp [loadAt]
  | succ k ih =>
    intro hk
    have h1 := ih (by omega)
    have h2 := addsTo_range (m := m) (pa := pa) (pb := pb) (all_get h k (by omega)) c
    rw [loadAt_take m pa pb l k (by omega) c]
    omega
theorem loadAt_range' {m : Mesh} {pa pb : List Int} {l : List Packet} (h : l.all (packetOk m.g) = true) (c : Int) : 0 ≤ loadAt m pa pb l c ∧ loadAt m pa pb l c ≤ 5 * l.length := by
  have := loadAt_range (pa := pa) (pb := pb) h c l.length (Nat.le_refl _)
  rwa [List.take_length] at this
theorem chans_le (m : Mesh) : chans m ≤ 64 := by
  have := count_le m.g
  unfold chans
  omega
theorem chans_cast (m : Mesh) : ((chans m : Nat) : Int) = 4 * nodeCount m.g := by
  have := count_le m.g
  unfold chans
  omega
theorem loadsL_of {m : Mesh} {pa pb : List Int} {l : List Packet} {x : List Int} (hl : x.length = chans m) (h : ∀ j : Nat, j < chans m → ri x j = loadAt m pa pb l j) : x = loadsL m pa pb l :=
  same_get (by rw [hl, loadsL_len]) (fun j hj => by rw [loadsL_len] at hj; rw [h j hj, loadsL_get _ _ _ _ _ hj])
theorem loadAt_nil (m : Mesh) (pa pb : List Int) (c : Int) : loadAt m pa pb [] c = 0 := rfl
theorem ri_replicate (n j : Nat) (h : j < n) : ri (List.replicate n 0) j = 0 := by
  rw [ri_get _ j (by simpa using h)]
  simp
theorem take_next (w : List Int) (i : Nat) (hi : i < w.length) : w.take (i + 1) = w.take i ++ [ri w i] := by
  rw [ri_get w i hi, List.take_succ_eq_append_getElem hi]
theorem has_snoc (w : List Int) (x c : Int) : has (w ++ [x]) c = (has w c || x == c) := by
  simp only [has, List.contains_eq_any_beq, List.any_append, List.any_cons, List.any_nil, Bool.or_false]
  congr 1
  rw [Bool.eq_iff_iff, beq_iff_eq, beq_iff_eq]
  exact eq_comm
theorem has_take_not {w : List Int} (hn : w.Nodup) (i : Nat) (hi : i < w.length) : has (w.take i) (ri w i) = false := by
  refine contains_no (fun j hj => ?_)
  have hjl : j < i := by rw [List.length_take] at hj; omega
  rw [ri_get _ j hj, ri_get w i hi, List.getElem_take]
  intro e
  exact (List.pairwise_iff_getElem.1 hn) j i (by omega) hi hjl e
/-- The greatest load. -/
def maxL (l : List Int) : Int := l.foldl max (-1)
def maxLoadL (m : Mesh) (pa pb : List Int) (l : List Packet) : Int := if arePk m pa pb l then maxL (loadsL m pa pb l) else -1
def maxTo (l : List Int) (k : Nat) : Int := (l.take k).foldl max (-1)
theorem maxTo_succ (l : List Int) (k : Nat) (hk : k < l.length) : maxTo l (k + 1) = max (maxTo l k) (ri l k) := by
  unfold maxTo
  rw [take_next l k hk, List.foldl_append]
  rfl
theorem maxTo_zero (l : List Int) : maxTo l 0 = -1 := rfl
theorem maxTo_all (l : List Int) : maxTo l l.length = maxL l := by rw [maxTo, List.take_length]; rfl
/-- The sum of the loads, as the program adds. -/
def sumTo (l : List Int) (k : Nat) : Int := (l.take k).foldl (· + ·) 0
theorem sumTo_succ (l : List Int) (k : Nat) (hk : k < l.length) : sumTo l (k + 1) = sumTo l k + ri l k := by
  unfold sumTo
  rw [take_next l k hk, List.foldl_append]
  rfl
theorem sumTo_range {l : List Int} {N : Int} (h0 : 0 ≤ N) (h : ∀ j : Nat, j < l.length → 0 ≤ ri l j ∧ ri l j ≤ N) : ∀ k, k ≤ l.length → 0 ≤ sumTo l k ∧ sumTo l k ≤ N * k := by
  intro k
  induction k with
  | zero => intro _; simp [sumTo]
  | succ k ih =>
    intro hk
    have h1 := ih (by omega)
    have h2 := h k (by omega)
    rw [sumTo_succ l k (by omega)]
    have : N * ((k + 1 : Nat) : Int) = N * k + N := by push_cast; rw [Int.mul_add, Int.mul_one]
    omega
def totalHops (m : Mesh) (pa pb : List Int) (l : List Packet) : Int := if arePk m pa pb l then sumTo (loadsL m pa pb l) (chans m) else -1
/-- The channels of a load. -/
def hotTo (l : List Int) (most : Int) (k : Nat) : List Int := ((List.range k).filter (fun (c : Nat) => ri l (c : Int) == most)).map (fun (c : Nat) => (c : Int))
theorem hotTo_yes (l : List Int) (most : Int) (k : Nat) (h : ri l k = most) : hotTo l most (k + 1) = hotTo l most k ++ [(k : Int)] := by
  simp [hotTo, List.range_succ, h]
theorem hotTo_no (l : List Int) (most : Int) (k : Nat) (h : ¬ ri l k = most) : hotTo l most (k + 1) = hotTo l most k := by
  simp [hotTo, List.range_succ, h]
theorem hotTo_len (l : List Int) (most : Int) (k : Nat) : (hotTo l most k).length ≤ k := by
  simp only [hotTo, List.length_map]
  exact Nat.le_trans (List.length_filter_le _ _) (by simp)
def hottest (m : Mesh) (pa pb : List Int) (l : List Packet) : List Int := if maxLoadL m pa pb l ≤ 0 then [] else hotTo (loadsL m pa pb l) (maxLoadL m pa pb l) (chans m)
/-- The times of the packets one after the other. -/
def serTo (m : Mesh) (pa pb : List Int) (l : List Packet) (k : Nat) : Int := (l.take k).foldl (fun s p => s + zeroLoad m pa pb p) 0
def serialTime (m : Mesh) (pa pb : List Int) (l : List Packet) : Int := if l.any (fun p => decide (zeroLoad m pa pb p < 0)) then -1 else serTo m pa pb l l.length
theorem serTo_succ (m : Mesh) (pa pb : List Int) (l : List Packet) (k : Nat) (hk : k < l.length) : serTo m pa pb l (k + 1) = serTo m pa pb l k + zeroLoad m pa pb (rp l k) := by
  unfold serTo
  rw [take_snoc l k hk, List.foldl_append]
  rfl
theorem serial_no {m : Mesh} {pa pb : List Int} {l : List Packet} (k : Nat) (hk : k < l.length) (h : zeroLoad m pa pb (rp l k) < 0) : serialTime m pa pb l = -1 := by
  unfold serialTime
  rw [if_pos]
  rw [List.any_eq_true]
  rw [rp_get l k hk] at h
  exact ⟨_, List.getElem_mem hk, decide_eq_true h⟩
theorem serial_yes {m : Mesh} {pa pb : List Int} {l : List Packet} (h : ∀ k : Nat, k < l.length → ¬ zeroLoad m pa pb (rp l k) < 0) : serialTime m pa pb l = serTo m pa pb l l.length := by
  unfold serialTime
  rw [if_neg]
  rw [List.any_eq_true]
  rintro ⟨p, hp, hd⟩
  obtain ⟨k, hk, rfl⟩ := List.getElem_of_mem hp
  have := h k hk
  rw [rp_get l k hk] at this
  exact this (of_decide_eq_true hd)
theorem zeroLoad_le (m : Mesh) (pa pb : List Int) (p : Packet) : -1 ≤ zeroLoad m pa pb p ∧ zeroLoad m pa pb p ≤ 30 := by
  unfold zeroLoad
  split
  · rename_i h
    rw [Bool.and_eq_true] at h
    have := packetOk_len h.2
    have := wt_len m (tabOf pa pb p.cls) p.src p.dst
    unfold walkP
    omega
  · omega
theorem serTo_range (m : Mesh) (pa pb : List Int) (l : List Packet) (n : Nat) (hn : n ≤ l.length) (h : ∀ k : Nat, k < n → ¬ zeroLoad m pa pb (rp l k) < 0) : 0 ≤ serTo m pa pb l n ∧ serTo m pa pb l n ≤ 30 * n := by
  induction n with
  | zero => simp [serTo]
  | succ n ih =>
    have h1 := ih (by omega) (fun k hk => h k (by omega))
    have h2 := h n (by omega)
    have h3 := zeroLoad_le m pa pb (rp l n)
    rw [serTo_succ m pa pb l n (by omega)]
    omega
theorem arePk_parts {m : Mesh} {pa pb : List Int} {l : List Packet} (h : arePk m pa pb l = true) : classesOk m pa pb = true ∧ l.all (packetOk m.g) = true := by
  unfold arePk at h
  rwa [Bool.and_eq_true] at h
theorem sized_count {m : Mesh} {t : List Int} (h : sized m t = true) : 0 < nodeCount m.g := by
  have h1 := (sized_iff.1 h).1
  unfold meshOk at h1
  rw [Bool.and_eq_true] at h1
  have hg := h1.1
  unfold nodeCount
  rw [if_pos hg]
  simp only [gridOk, inside, Bool.and_eq_true, decide_eq_true_eq] at hg
  obtain ⟨⟨a, b⟩, c, d⟩ := hg
  have := Int.mul_le_mul a c (by omega) (by omega)
  omega
theorem arePk_count {m : Mesh} {pa pb : List Int} {l : List Packet} (h : arePk m pa pb l = true) : 0 < nodeCount m.g := sized_count (classesOk_sized (arePk_parts h).1).1
def loadsOf (m : Mesh) (pa pb : List Int) (l : List Packet) : List Int := if arePk m pa pb l then loadsL m pa pb l else []
theorem loadsOf_yes {m : Mesh} {pa pb : List Int} {l : List Packet} (h : arePk m pa pb l = true) : loadsOf m pa pb l = loadsL m pa pb l := by rw [loadsOf, if_pos h]
theorem loadsOf_no {m : Mesh} {pa pb : List Int} {l : List Packet} (h : arePk m pa pb l = false) : loadsOf m pa pb l = [] := by rw [loadsOf, h]; rfl
theorem loadsOf_len (m : Mesh) (pa pb : List Int) (l : List Packet) : (loadsOf m pa pb l).length ≤ 64 := by
  cases h : arePk m pa pb l
  · rw [loadsOf_no h]; simp
  · rw [loadsOf_yes h, loadsL_len]; exact chans_le m
theorem loadsL_range {m : Mesh} {pa pb : List Int} {l : List Packet} (h : l.all (packetOk m.g) = true) (hl : l.length ≤ 1048576) (j : Nat) (hj : j < (loadsL m pa pb l).length) : 0 ≤ ri (loadsL m pa pb l) j ∧ ri (loadsL m pa pb l) j ≤ 5242880 := by
  rw [loadsL_len] at hj
  rw [loadsL_get _ _ _ _ _ hj]
  have := loadAt_range' (pa := pa) (pb := pb) h j
  omega
theorem loadsOf_range (m : Mesh) (pa pb : List Int) (l : List Packet) (hl : l.length ≤ 1048576) : ∀ j : Nat, j < (loadsOf m pa pb l).length → 0 ≤ ri (loadsOf m pa pb l) j ∧ ri (loadsOf m pa pb l) j ≤ 5242880 := by
  intro j hj
  cases h : arePk m pa pb l
  · rw [loadsOf_no h] at hj; simp at hj
  · rw [loadsOf_yes h] at hj ⊢
    exact loadsL_range (arePk_parts h).2 hl j hj
theorem maxL_loadsOf (m : Mesh) (pa pb : List Int) (l : List Packet) : maxL (loadsOf m pa pb l) = maxLoadL m pa pb l := by
  cases h : arePk m pa pb l
  · rw [loadsOf_no h, maxLoadL, h]; rfl
  · rw [loadsOf_yes h, maxLoadL, h]; rfl
theorem maxTo_range {l : List Int} (h : ∀ j : Nat, j < l.length → 0 ≤ ri l j ∧ ri l j ≤ 5242880) : ∀ k, k ≤ l.length → -1 ≤ maxTo l k ∧ maxTo l k ≤ 5242880 := by
  intro k
  induction k with
  | zero => intro _; simp [maxTo_zero]
  | succ k ih =>
    intro hk
    have h1 := ih (by omega)
    have h2 := h k (by omega)
    rw [maxTo_succ l k (by omega)]
    omega
theorem maxTo_one {l : List Int} (hl : 0 < l.length) (h : 0 ≤ ri l 0) : maxTo l 1 = ri l 0 := by
  rw [maxTo_succ l 0 hl, maxTo_zero]
  simp only [Int.natCast_zero] at h ⊢
  omega
theorem maxLoadL_range (m : Mesh) (pa pb : List Int) (l : List Packet) (hl : l.length ≤ 1048576) : -1 ≤ maxLoadL m pa pb l ∧ maxLoadL m pa pb l ≤ 5242880 := by
  rw [← maxL_loadsOf, ← maxTo_all]
  exact maxTo_range (loadsOf_range m pa pb l hl) _ (Nat.le_refl _)
theorem sum_loads {m : Mesh} {pa pb : List Int} {l : List Packet} (hl : l.length ≤ 1048576) (k : Nat) (hk : k ≤ (loadsOf m pa pb l).length) : 0 ≤ sumTo (loadsOf m pa pb l) k ∧ sumTo (loadsOf m pa pb l) k ≤ 5242880 * k :=
  sumTo_range (by omega) (loadsOf_range m pa pb l hl) k hk
theorem totalHops_yes {m : Mesh} {pa pb : List Int} {l : List Packet} (h : arePk m pa pb l = true) : totalHops m pa pb l = sumTo (loadsOf m pa pb l) (loadsOf m pa pb l).length := by
  rw [totalHops, if_pos h, loadsOf_yes h, loadsL_len]
theorem totalHops_no {m : Mesh} {pa pb : List Int} {l : List Packet} (h : arePk m pa pb l = false) : totalHops m pa pb l = -1 := by
  rw [totalHops, h]; rfl
theorem hottest_no {m : Mesh} {pa pb : List Int} {l : List Packet} (h : maxLoadL m pa pb l ≤ 0) : hottest m pa pb l = [] := by
  rw [hottest, if_pos h]
theorem hottest_yes {m : Mesh} {pa pb : List Int} {l : List Packet} (h : 0 < maxLoadL m pa pb l) : arePk m pa pb l = true ∧ hottest m pa pb l = hotTo (loadsOf m pa pb l) (maxLoadL m pa pb l) (loadsOf m pa pb l).length := by
  cases ha : arePk m pa pb l
  · rw [maxLoadL, ha] at h; simp at h
  · refine ⟨rfl, ?_⟩
    rw [hottest, if_neg (by omega), loadsOf_yes ha, loadsL_len]
end NoC
