/- Lemmas for laws of this seat, for all inputs: M. -/

set_option linter.unusedVariables false
set_option linter.unusedSimpArgs false
namespace NoC
structure Grid where
  w : Int
  h : Int
deriving DecidableEq
structure Mesh where
  g : Grid
  br : List Int
deriving DecidableEq
structure Packet where
  id : Int
  src : Int
  dst : Int
  cls : Int
  len : Int
deriving DecidableEq
structure Flit where
  pk : Int
  dst : Int
  cls : Int
  head : Bool
  tail : Bool
deriving DecidableEq
structure Net where
  mesh : Mesh
  pa : List Int
  pb : List Int
  bufs : List (List Flit)
  owners : List Int
  turns : List Int
  srcs : List (List Flit)
  arrs : List (List Flit)
  time : Int
deriving DecidableEq
structure Grant where
  node : Int
  port : Int
  input : Int
deriving DecidableEq
structure Wait where
  a : Int
  b : Int
deriving DecidableEq

def z0 : Flit := ⟨0, 0, 0, false, false⟩
def zp : Packet := ⟨0, 0, 0, 0, 0⟩
def ri (l : List Int) (i : Int) : Int := l.getD i.toNat 0
def rl (l : List (List Flit)) (i : Int) : List Flit := l.getD i.toNat []
def rf (l : List Flit) (i : Int) : Flit := l.getD i.toNat z0
def rp (l : List Packet) (i : Int) : Packet := l.getD i.toNat zp

def inside (n lo hi : Int) : Bool := decide (lo ≤ n) && decide (n ≤ hi)
def gridOk (g : Grid) : Bool := inside g.w 1 4 && inside g.h 1 4
def nodeCount (g : Grid) : Int := if gridOk g then g.w * g.h else 0
def isNode (g : Grid) (a : Int) : Bool := inside a 0 (nodeCount g - 1)
def nodeAt (g : Grid) (x y : Int) : Int := if gridOk g && inside x 0 (g.w - 1) && inside y 0 (g.h - 1) then y * g.w + x else -1
def nextNode (g : Grid) (a p : Int) : Int :=
  if isNode g a then
    if p = 0 then nodeAt g (a % g.w) (a / g.w - 1)
    else if p = 1 then nodeAt g (a % g.w + 1) (a / g.w)
    else if p = 2 then nodeAt g (a % g.w) (a / g.w + 1)
    else if p = 3 then nodeAt g (a % g.w - 1) (a / g.w)
    else if p = 4 then a else -1
  else -1
def opposite (p : Int) : Int := if p = 4 then 4 else if inside p 0 3 then (p + 2) % 4 else -1
def leads (g : Grid) (c : Int) : Bool := inside c 0 (4 * nodeCount g - 1) && decide (0 ≤ nextNode g (c / 4) (c % 4))
def allI (n : Nat) (p : Nat → Bool) : Bool := (List.range n).all p
def joinI {α : Type} (n : Nat) (f : Nat → List α) : List α := (List.range n).flatMap f
def brokenAt (m : Mesh) (i : Nat) : Bool := leads m.g (ri m.br i) && (i == 0 || decide (ri m.br ((i - 1 : Nat) : Int) < ri m.br i))
def meshOk (m : Mesh) : Bool := gridOk m.g && allI m.br.length (brokenAt m)
def has (l : List Int) (x : Int) : Bool := l.contains x
def live (m : Mesh) (c : Int) : Bool := leads m.g c && !(has m.br c)
def hasChannel (m : Mesh) (c : Int) : Bool := meshOk m && live m c
def sized (m : Mesh) (t : List Int) : Bool := meshOk m && decide ((t.length : Int) = nodeCount m.g * nodeCount m.g)
def entry (m : Mesh) (t : List Int) (a b : Int) : Int := ri t (a * nodeCount m.g + b)
def portAt (m : Mesh) (t : List Int) (a b : Int) : Int :=
  if sized m t && isNode m.g a && isNode m.g b && inside (entry m t a b) 0 4 then entry m t a b else -1
def walkF (m : Mesh) (t : List Int) (goal : Int) : Nat → Int → List Int → List Int
  | 0, _, _ => []
  | k + 1, at_, out =>
    if entry m t at_ goal = 4 then (if at_ = goal then out else [])
    else if inside (entry m t at_ goal) 0 3 && live m (4 * at_ + entry m t at_ goal) then
      walkF m t goal k (nextNode m.g at_ (entry m t at_ goal)) (out ++ [4 * at_ + entry m t at_ goal])
    else []
def walk (m : Mesh) (t : List Int) (a b : Int) : List Int := walkF m t b ((nodeCount m.g).toNat + 1) a []
def tableOk (m : Mesh) (t : List Int) : Bool :=
  sized m t && allI (nodeCount m.g).toNat fun a => allI (nodeCount m.g).toNat fun b =>
    if a = b then entry m t a a == 4 else decide (0 < (walk m t a b).length)
def classesOk (m : Mesh) (pa pb : List Int) : Bool := tableOk m pa && tableOk m pb
def packetOk (g : Grid) (p : Packet) : Bool := inside p.id 1 9999 && isNode g p.src && isNode g p.dst && decide (p.src ≠ p.dst) && inside p.cls 0 1 && inside p.len 1 5
def flitsOf (g : Grid) (p : Packet) : List Flit :=
  if packetOk g p then (List.range p.len.toNat).map fun (i : Nat) => ⟨p.id, p.dst, p.cls, i == 0, (i : Int) == p.len - 1⟩ else []


theorem allI_true {n : Nat} {p : Nat → Bool} (h : ∀ i, i < n → p i = true) : allI n p = true := by
  simp [allI]; exact h
theorem allI_false {n : Nat} {p : Nat → Bool} (k : Nat) (hk : k < n) (h : p k = false) : allI n p = false := by
  rw [Bool.eq_false_iff]
  intro ha
  simp [allI] at ha
  rw [ha k hk] at h
  exact absurd h (by simp)
theorem allI_iff {n : Nat} {p : Nat → Bool} : allI n p = true ↔ ∀ i, i < n → p i = true := by simp [allI]
theorem joinI_succ {α : Type} (n : Nat) (f : Nat → List α) : joinI (n + 1) f = joinI n f ++ f n := by
  simp [joinI, List.range_succ]
theorem meshOk_no {m : Mesh} (k : Nat) (hk : k < m.br.length) (h : brokenAt m k = false) : meshOk m = false := by
  unfold meshOk
  rw [allI_false k hk h, Bool.and_false]
theorem meshOk_yes {m : Mesh} (h : ∀ k, k < m.br.length → brokenAt m k = true) : meshOk m = gridOk m.g := by
  unfold meshOk
  rw [allI_true h, Bool.and_true]
theorem brokenAt_no1 {m : Mesh} {k : Nat} (h : ¬ leads m.g (ri m.br k) = true) : brokenAt m k = false := by
  simp [brokenAt, h]
theorem brokenAt_no2 {m : Mesh} {k : Nat} (h0 : 0 < k) (h : ri m.br k ≤ ri m.br ((k - 1 : Nat) : Int)) : brokenAt m k = false := by
  have : ¬ k = 0 := by omega
  have : ¬ ri m.br ((k - 1 : Nat) : Int) < ri m.br k := by omega
  simp [brokenAt, *]
theorem brokenAt_yes1 {m : Mesh} {k : Nat} (hl : leads m.g (ri m.br k) = true) (h : ri m.br ((k - 1 : Nat) : Int) < ri m.br k) : brokenAt m k = true := by
  simp [brokenAt, hl, h]
theorem brokenAt_yes0 {m : Mesh} {k : Nat} (hl : leads m.g (ri m.br k) = true) (h : ¬ 0 < k) : brokenAt m k = true := by
  obtain rfl : k = 0 := by omega
  simp only [brokenAt, hl]
  rfl

theorem ri_get (l : List Int) (k : Nat) (h : k < l.length) : ri l (k : Int) = l[k] := by
  simp [ri, List.getD_eq_getElem?_getD, h]
theorem contains_yes {l : List Int} {x : Int} (k : Nat) (hk : k < l.length) (h : ri l k = x) : has l x = true := by
  unfold has
  rw [ri_get l k hk] at h
  rw [List.contains_iff_mem, ← h]
  exact List.getElem_mem hk
theorem contains_no {l : List Int} {x : Int} (h : ∀ j : Nat, j < l.length → ¬ ri l j = x) : has l x = false := by
  unfold has
  rw [Bool.eq_false_iff]
  intro hc
  rw [List.contains_iff_mem] at hc
  obtain ⟨k, hk, e⟩ := List.getElem_of_mem hc
  exact h k hk (by rw [ri_get l k hk]; exact e)
def idx (l : List Int) (x : Int) : Int := if has l x then (l.findIdx (· == x) : Nat) else -1
theorem idx_yes {l : List Int} {x : Int} (k : Nat) (hk : k < l.length) (h : ri l k = x) (hb : ∀ j : Nat, j < k → ¬ ri l j = x) : idx l x = k := by
  unfold idx
  rw [if_pos (contains_yes k hk h)]
  have : l.findIdx (· == x) = k := by
    rw [List.findIdx_eq hk]
    refine ⟨by rw [ri_get l k hk] at h; simpa using h, fun j hj => ?_⟩
    have := hb j hj
    rw [ri_get l j (by omega)] at this
    simpa using this
  rw [this]
theorem idx_no {l : List Int} {x : Int} (h : ∀ j : Nat, j < l.length → ¬ ri l j = x) : idx l x = -1 := by
  unfold idx
  rw [contains_no h]
  rfl
theorem idx_contains (l : List Int) (x : Int) : decide (0 ≤ idx l x) = has l x := by
  unfold idx
  split
  · rename_i h; rw [h]; simp
  · rename_i h; simp only [Bool.not_eq_true] at h; rw [h]; rfl
end NoC
