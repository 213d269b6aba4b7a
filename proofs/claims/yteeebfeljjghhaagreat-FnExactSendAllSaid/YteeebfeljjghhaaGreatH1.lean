/- Lemmas for laws of this seat, for all inputs: M Base Scal Mesh M2. -/
import Derived.Test.YteeebfeljjghhaaGreatWWords
import Derived.WalkKit
import Derived.WalkSpells
import Derived.Lib.Hide
import Derived.Deep.QuietTactic
import Derived.BigQuiet
import Derived.Outline
import Derived.Deep.LoopGhost
import Derived.Deep.RegionHeld3
import Derived.Test.YteeebfeljjghhaaGreatProg
/- The plain functions on numbers and lists that the program's and the reference's functions compute; no program, no memory. -/
set_option linter.unusedVariables false
namespace NoC

structure Grid where
  w : Int
  h : Int
deriving DecidableEq
structure Mesh where
  g : Grid
  br : List Int
deriving DecidableEq
structure Packet where
  id : Int
  src : Int
  dst : Int
  cls : Int
  len : Int
deriving DecidableEq
structure Flit where
  pk : Int
  dst : Int
  cls : Int
  head : Bool
  tail : Bool
deriving DecidableEq
structure Net where
  mesh : Mesh
  pa : List Int
  pb : List Int
  bufs : List (List Flit)
  owners : List Int
  turns : List Int
  srcs : List (List Flit)
  arrs : List (List Flit)
  time : Int
deriving DecidableEq
structure Grant where
  node : Int
  port : Int
  input : Int
deriving DecidableEq
def z0 : Flit := ⟨0, 0, 0, false, false⟩
def zp : Packet := ⟨0, 0, 0, 0, 0⟩
def ri (l : List Int) (i : Int) : Int := l.getD i.toNat 0
def rl (l : List (List Flit)) (i : Int) : List Flit := l.getD i.toNat []
def rf (l : List Flit) (i : Int) : Flit := l.getD i.toNat z0
def rp (l : List Packet) (i : Int) : Packet := l.getD i.toNat zp

def inside (n lo hi : Int) : Bool := decide (lo ≤ n) && decide (n ≤ hi)
def gridOk (g : Grid) : Bool := inside g.w 1 4 && inside g.h 1 4
def nodeCount (g : Grid) : Int := if gridOk g then g.w * g.h else 0
def isNode (g : Grid) (a : Int) : Bool := inside a 0 (nodeCount g - 1)
def nodeAt (g : Grid) (x y : Int) : Int := if gridOk g && inside x 0 (g.w - 1) && inside y 0 (g.h - 1) then y * g.w + x else -1
def nextNode (g : Grid) (a p : Int) : Int :=
  if isNode g a then
    if p = 0 then nodeAt g (a % g.w) (a / g.w - 1)
    else if p = 1 then nodeAt g (a % g.w + 1) (a / g.w)
    else if p = 2 then nodeAt g (a % g.w) (a / g.w + 1)
    else if p = 3 then nodeAt g (a % g.w - 1) (a / g.w)
    else if p = 4 then a else -1
  else -1
def opposite (p : Int) : Int := if p = 4 then 4 else if inside p 0 3 then (p + 2) % 4 else -1
def leads (g : Grid) (c : Int) : Bool := inside c 0 (4 * nodeCount g - 1) && decide (0 ≤ nextNode g (c / 4) (c % 4))
def allI (n : Nat) (p : Nat → Bool) : Bool := (List.range n).all p
def brokenAt (m : Mesh) (i : Nat) : Bool := leads m.g (ri m.br i) && (i == 0 || decide (ri m.br ((i - 1 : Nat) : Int) < ri m.br i))
def meshOk (m : Mesh) : Bool := gridOk m.g && allI m.br.length (brokenAt m)
def has (l : List Int) (x : Int) : Bool := l.contains x
def live (m : Mesh) (c : Int) : Bool := leads m.g c && !(has m.br c)
def hasChannel (m : Mesh) (c : Int) : Bool := meshOk m && live m c
def sized (m : Mesh) (t : List Int) : Bool := meshOk m && decide ((t.length : Int) = nodeCount m.g * nodeCount m.g)
def entry (m : Mesh) (t : List Int) (a b : Int) : Int := ri t (a * nodeCount m.g + b)
def portAt (m : Mesh) (t : List Int) (a b : Int) : Int :=
  if sized m t && isNode m.g a && isNode m.g b && inside (entry m t a b) 0 4 then entry m t a b else -1
def walkF (m : Mesh) (t : List Int) (goal : Int) : Nat → Int → List Int → List Int
  | 0, _, _ => []
  | k + 1, at_, out =>
    if entry m t at_ goal = 4 then (if at_ = goal then out else [])
    else if inside (entry m t at_ goal) 0 3 && live m (4 * at_ + entry m t at_ goal) then
      walkF m t goal k (nextNode m.g at_ (entry m t at_ goal)) (out ++ [4 * at_ + entry m t at_ goal])
    else []
def walk (m : Mesh) (t : List Int) (a b : Int) : List Int := walkF m t b ((nodeCount m.g).toNat + 1) a []
def tableOk (m : Mesh) (t : List Int) : Bool :=
  sized m t && allI (nodeCount m.g).toNat fun a => allI (nodeCount m.g).toNat fun b =>
    if a = b then entry m t a a == 4 else decide (0 < (walk m t a b).length)
def classesOk (m : Mesh) (pa pb : List Int) : Bool := tableOk m pa && tableOk m pb
def packetOk (g : Grid) (p : Packet) : Bool := inside p.id 1 9999 && isNode g p.src && isNode g p.dst && decide (p.src ≠ p.dst) && inside p.cls 0 1 && inside p.len 1 5
def flitsOf (g : Grid) (p : Packet) : List Flit :=
  if packetOk g p then (List.range p.len.toNat).map fun (i : Nat) => ⟨p.id, p.dst, p.cls, i == 0, (i : Int) == p.len - 1⟩ else []


theorem allI_true {n : Nat} {p : Nat → Bool} (h : ∀ i, i < n → p i = true) : allI n p = true := by
  simp [allI]; exact h
theorem allI_false {n : Nat} {p : Nat → Bool} (k : Nat) (hk : k < n) (h : p k = false) : allI n p = false := by
  rw [Bool.eq_false_iff]
  intro ha
  simp [allI] at ha
  rw [ha k hk] at h
  exact absurd h (by simp)
theorem allI_iff {n : Nat} {p : Nat → Bool} : allI n p = true ↔ ∀ i, i < n → p i = true := by simp [allI]
theorem meshOk_no {m : Mesh} (k : Nat) (hk : k < m.br.length) (h : brokenAt m k = false) : meshOk m = false := by
  unfold meshOk
  rw [allI_false k hk h, Bool.and_false]
theorem meshOk_yes {m : Mesh} (h : ∀ k, k < m.br.length → brokenAt m k = true) : meshOk m = gridOk m.g := by
  unfold meshOk
  rw [allI_true h, Bool.and_true]
theorem brokenAt_no1 {m : Mesh} {k : Nat} (h : ¬ leads m.g (ri m.br k) = true) : brokenAt m k = false := by
  simp [brokenAt, h]
theorem brokenAt_no2 {m : Mesh} {k : Nat} (h0 : 0 < k) (h : ri m.br k ≤ ri m.br ((k - 1 : Nat) : Int)) : brokenAt m k = false := by
  have : ¬ k = 0 := by omega
  have : ¬ ri m.br ((k - 1 : Nat) : Int) < ri m.br k := by omega
  simp [brokenAt, *]
theorem brokenAt_yes1 {m : Mesh} {k : Nat} (hl : leads m.g (ri m.br k) = true) (h : ri m.br ((k - 1 : Nat) : Int) < ri m.br k) : brokenAt m k = true := by
  simp [brokenAt, hl, h]
theorem brokenAt_yes0 {m : Mesh} {k : Nat} (hl : leads m.g (ri m.br k) = true) (h : ¬ 0 < k) : brokenAt m k = true := by
  obtain rfl : k = 0 := by omega
  simp only [brokenAt, hl]
  rfl

theorem ri_get (l : List Int) (k : Nat) (h : k < l.length) : ri l (k : Int) = l[k] := by
  simp [ri, List.getD_eq_getElem?_getD, h]
theorem contains_yes {l : List Int} {x : Int} (k : Nat) (hk : k < l.length) (h : ri l k = x) : has l x = true := by
  unfold has
  rw [ri_get l k hk] at h
  rw [List.contains_iff_mem, ← h]
  exact List.getElem_mem hk
theorem contains_no {l : List Int} {x : Int} (h : ∀ j : Nat, j < l.length → ¬ ri l j = x) : has l x = false := by
  unfold has
  rw [Bool.eq_false_iff]
  intro hc
  rw [List.contains_iff_mem] at hc
  obtain ⟨k, hk, e⟩ := List.getElem_of_mem hc
  exact h k hk (by rw [ri_get l k hk]; exact e)
def idx (l : List Int) (x : Int) : Int := if has l x then (l.findIdx (· == x) : Nat) else -1
theorem idx_yes {l : List Int} {x : Int} (k : Nat) (hk : k < l.length) (h : ri l k = x) (hb : ∀ j : Nat, j < k → ¬ ri l j = x) : idx l x = k := by
  unfold idx
  rw [if_pos (contains_yes k hk h)]
  have : l.findIdx (· == x) = k := by
    rw [List.findIdx_eq hk]
    refine ⟨by rw [ri_get l k hk] at h; simpa using h, fun j hj => ?_⟩
    have := hb j hj
    rw [ri_get l j (by omega)] at this
    simpa using this
  rw [this]
theorem idx_no {l : List Int} {x : Int} (h : ∀ j : Nat, j < l.length → ¬ ri l j = x) : idx l x = -1 := by
  unfold idx
  rw [contains_no h]
  rfl
theorem idx_contains (l : List Int) (x : Int) : decide (0 ≤ idx l x) = has l x := by
  unfold idx
  split
  · rename_i h; rw [h]; simp
  · rename_i h; simp only [Bool.not_eq_true] at h; rw [h]; rfl
end NoC
/- Words that all walks of this seat share; no program. -/
set_option linter.unusedVariables false
set_option linter.unusedSimpArgs false
namespace Go.Proofs.YteeebfeljjghhaaGreat
open Go.RowKit Go.Proofs.YteeebfeljjghhaaGreatW.PrintWords

theorem bw_refl (w : World) : Below w.heap.size w w := Below.refl _ _
theorem bw_alloc {w W : World} (o : Obj) (h : Below w.heap.size w W) : Below w.heap.size w (W.alloc o) := h.alloc h.size o
theorem bw_drew {w W : World} (h : Below w.heap.size w W) : Below w.heap.size w W.drew := below_drew h
theorem bw_drewN {w W : World} (n : Nat) (h : Below w.heap.size w W) : Below w.heap.size w (W.drewN n) := pw_below_drewN h n
theorem bw_then {w W W' : World} (h : Below w.heap.size w W) (k : Below W.heap.size W W') : Below w.heap.size w W' := below_then h h.size k
theorem bw_size {w W : World} (h : Below w.heap.size w W) : w.heap.size ≤ W.heap.size := h.size
theorem sz_drewN (w : World) (n : Nat) : (w.drewN n).heap.size = w.heap.size := rfl
theorem bcell {w W : World} (hb : Below w.heap.size w W) : (∀ b o, b < w.heap.size → W.cell? ⟨b, o, none⟩ = w.cell? ⟨b, o, none⟩) ∧ (∀ b o, b < w.heap.size → W.frozen? ⟨b, o, none⟩ = w.frozen? ⟨b, o, none⟩) ∧ w.heap.size ≤ W.heap.size :=
  ⟨fun b o h => hb.cell (p := ⟨b, o, none⟩) h, fun b o h => hb.frozen (p := ⟨b, o, none⟩) h, hb.size⟩
/-- A slice of ints that is read: where it lies, if it has an element. -/
theorem rdI_at {w : World} {A : Option Addr} {l : List Int} (h : Kd.C (Kd.int .i64) w A l.length l) (k : Nat) (hk : k < l.length) :
    ∃ b off, A = some ⟨b, off, none⟩ ∧ b < w.heap.size ∧ ∀ j, j < l.length → w.cell? ⟨b, off + j, none⟩ = some (.int .i64 (NoC.ri l j)) := by
  have key : ∀ j, j < l.length → ∃ ad, A = some ad ∧ w.cell? (ad.add j) = some (.int .i64 (NoC.ri l j)) := by
    intro j hj
    obtain ⟨ad, cs, e, _, hK, hc⟩ := Kd.C_get h 0 (j : Int) (by omega) (by omega)
    have hK' : cs = [.int .i64 (l.getD (j : Int).toNat 0)] := hK
    subst hK'
    have := hc 0 _ rfl
    refine ⟨ad, e, ?_⟩
    have e2 : (j : Int).toNat * (Kd.int .i64).sz + 0 = j := by show (j : Int).toNat * 1 + 0 = j; omega
    rw [e2] at this
    exact this
  obtain ⟨ad, rfl, h0⟩ := key 0 (by omega)
  have hs : ad.spot = none := by
    cases hsp : ad.spot with
    | none => rfl
    | some s =>
      have : ad.add 0 = ad := by simp [Addr.add]
      rw [this] at h0
      unfold World.cell? at h0
      split at h0
      · simp [hsp] at h0
      · simp at h0
  obtain ⟨b, off, sp⟩ := ad
  simp only at hs
  subst hs
  refine ⟨b, off, rfl, World.block_lt_of_cell? w _ h0, fun j hj => ?_⟩
  obtain ⟨ad, e, h1⟩ := key j hj
  obtain rfl := Option.some.inj e
  rwa [show (⟨b, off, none⟩ : Addr).add j = ⟨b, off + j, none⟩ by unfold Addr.add; split <;> simp_all] at h1
/-- What holds below k and at k. -/
theorem upto {k : Nat} {p : Nat → Prop} (h : ∀ j, j < k → p j) (hk : p k) : ∀ j, j < k + 1 → p j := by
  intro j hj
  by_cases e : j = k
  · subst e; exact hk
  · exact h j (by omega)
theorem far_of {W w : World} (h : Below W.heap.size W w) : Below W.heap.size W w ∧ ∀ b o, b < W.heap.size → w.cell? ⟨b, o, none⟩ = W.cell? ⟨b, o, none⟩ := ⟨h, (bcell h).1⟩
/-- A world that lies above W: as W was, and more. -/
structure Far (W : World) where
  w : World
  h : Below W.heap.size W w
instance (W : World) : Nonempty (Far W) := ⟨⟨W, Below.refl _ _⟩⟩
theorem far_cell (W : World) (n : Far W) (b o : Nat) (hb : b < W.heap.size) : n.w.cell? ⟨b, o, none⟩ = W.cell? ⟨b, o, none⟩ := (bcell n.h).1 b o hb
theorem far_frozen (W : World) (n : Far W) (b o : Nat) (hb : b < W.heap.size) : n.w.frozen? ⟨b, o, none⟩ = W.frozen? ⟨b, o, none⟩ := (bcell n.h).2.1 b o hb
/-- A region that draws its order, reads, and calls what reads and makes: one walk in the text's order. -/
theorem wp_region_far {P : Program} {id : Nat} {Q : Exit → Act → World → Prop} {a : Act} {w : World} {l : List Oper} (W : World) (hm : P.follows .mixedOrders = true) (hB : Region.lexB .any l.toArray = true) (hC : Below W.heap.size W w)
    (h : wpQuiet P l.toArray (fun w' => ∃ n : Far W, w' = n.w) (fun a' => ∀ w', Below W.heap.size W w' → Q .normal a' w') l a) : (Code.region id l.toArray true).wp P Q a w := by
  refine wp_region_quiet (C := fun w' => ∃ n : Far W, w' = n.w) hm hB ⟨⟨_, below_drew hC⟩, rfl⟩ ?_
  have mono : ∀ (l' : List Oper) (a : Act), wpQuiet P l.toArray (fun w' => ∃ n : Far W, w' = n.w) (fun a' => ∀ w', Below W.heap.size W w' → Q .normal a' w') l' a → wpQuiet P l.toArray (fun w' => ∃ n : Far W, w' = n.w) (fun a' => ∀ w', (∃ n : Far W, w' = n.w) → Q .normal a' w') l' a := by
    intro l'
    induction l' with
    | nil =>
      intro a h w' hw'
      obtain ⟨n, rfl⟩ := hw'
      exact h _ n.h
    | cons o rest ih =>
      intro a h
      unfold wpQuiet at h ⊢
      split
      · rename_i hw
        rw [if_pos hw] at h
        exact Oper.quiet_mono ih h
      · rename_i hw
        rw [if_neg hw] at h
        exact ih _ h
  exact mono _ _ (by simpa using h)
theorem far_call {P : Program} {f : FuncId} {args : Array Value} {W : World} {n : Far W} {v : Value} (h : Calls P f args n.w fun e w' => e = .returned v ∧ Below n.w.heap.size n.w w') :
    Calls P f args n.w fun e w'' => e = .returned v ∧ ∃ m : Far W, w'' = m.w :=
  h.mono fun _ w' ⟨he, hb⟩ => ⟨he, ⟨w', bw_then n.h hb⟩, rfl⟩
theorem far_same {P : Program} {f : FuncId} {args : Array Value} {W : World} {n : Far W} {v : Value} (h : Calls P f args n.w fun e w' => e = .returned v ∧ n.w = w') :
    Calls P f args n.w fun e w'' => e = .returned v ∧ ∃ m : Far W, w'' = m.w :=
  h.mono fun _ w' ⟨he, hb⟩ => ⟨he, n, hb.symm⟩
/-- A contract's answer, said otherwise. -/
theorem Calls.says {P : Program} {f : FuncId} {args : Array Value} {w : World} {u v : Value} {R : World → Prop} (h : Calls P f args w fun e w' => e = .returned u ∧ R w') (hv : u = v) : Calls P f args w fun e w' => e = .returned v ∧ R w' := hv ▸ h
theorem more {b n : Nat} (h : b < n) : b < n + 1 ∧ b < n + 1 + 1 ∧ b < n + 2 ∧ b < n + 1 + 1 + 1 ∧ b < n + 3 ∧ b < n + 4 := by omega
theorem bw_set {w W : World} {g k : Nat} (v : Value) (h : Below w.heap.size w W) (hg : w.heap.size ≤ g) : Below w.heap.size w (W.setCell ⟨g, k, none⟩ v) := below_set h hg
theorem szs : (∀ (w : World) (o : Obj), (w.alloc o).heap.size = w.heap.size + 1) ∧ (∀ (w : World) (p : Addr) (v : Value), (w.setCell p v).heap.size = w.heap.size) ∧ (∀ w : World, w.drew.heap.size = w.heap.size) ∧ (∀ (w : World) (n : Nat), (w.drewN n).heap.size = w.heap.size) := ⟨World.size_alloc, World.size_setCell, World.size_drew, sz_drewN⟩
theorem nms : (∀ (l : List Value) (i : Nat) (a : Value), l.toArray.setIfInBounds i a = (l.set i a).toArray) ∧ (∀ (x a : Value) (l : List Value), (x :: l).set 0 a = a :: l) ∧ (∀ (x a : Value) (l : List Value) (i : Nat), (x :: l).set (i + 1) a = x :: l.set i a) ∧ (∀ (x d : Value) (l : List Value), (x :: l).getD 0 d = x) ∧ (∀ (x d : Value) (l : List Value) (i : Nat), (x :: l).getD (i + 1) d = l.getD i d) := ⟨fun _ _ _ => List.setIfInBounds_toArray .., fun _ _ _ => rfl, fun _ _ _ _ => rfl, fun _ _ _ => rfl, fun _ _ _ _ => rfl⟩
/-- A world that grew out of another one, by the facts at hand. -/
theorem bel {w W : World} (h : Below w.heap.size w W := by with_reducible repeat (first | assumption | exact bw_refl _ | apply bw_alloc | apply bw_drew | apply bw_drewN | refine bw_set _ ?_ (by first | omega | (simp only [szs]; omega)) | refine bw_then ?_ (by assumption))) : Below w.heap.size w W := h
theorem lts1 {a b : Nat} (h : a + 1 ≤ b) : a < b := h
theorem lts2 {a b : Nat} (h : a + 1 + 1 ≤ b) : a < b ∧ a + 1 < b := by omega
theorem lts3 {a b : Nat} (h : a + 1 + 1 + 1 ≤ b) : a < b ∧ a + 1 < b ∧ a + 1 + 1 < b := by omega
theorem lts4 {a b : Nat} (h : a + 1 + 1 + 1 + 1 ≤ b) : a < b ∧ a + 1 < b ∧ a + 1 + 1 < b ∧ a + 1 + 1 + 1 < b := by omega
theorem ret_int {k : IntKind} {a b : Int} (h : a = b) : Ending.returned (.int k a) = .returned (.int k b) := by rw [h]
theorem ret_bool {a b : Bool} (h : a = b) : Ending.returned (.bool a) = .returned (.bool b) := by rw [h]
end Go.Proofs.YteeebfeljjghhaaGreat
/- The scalar functions of grids and ports: what each call returns, for all numbers. -/
set_option linter.unusedVariables false
set_option linter.unusedSimpArgs false
namespace Go.Proofs.YteeebfeljjghhaaGreat
open Go.RowKit
open NoC

theorem grid_bounds {g : Grid} (h : gridOk g = true) : 1 ≤ g.w ∧ g.w ≤ 4 ∧ 1 ≤ g.h ∧ g.h ≤ 4 ∧ 1 ≤ g.w * g.h ∧ g.w * g.h ≤ 16 := by
  simp only [gridOk, inside, Bool.and_eq_true, decide_eq_true_eq] at h
  obtain ⟨⟨a, b⟩, c, d⟩ := h
  refine ⟨a, b, c, d, ?_, ?_⟩
  · have := Int.mul_le_mul a c (by omega) (by omega); omega
  · have := Int.mul_le_mul b d (by omega) (by omega); omega
theorem count_bounds (g : Grid) : 0 ≤ nodeCount g ∧ nodeCount g ≤ 16 := by
  unfold nodeCount
  split
  · rename_i h; have := grid_bounds h; omega
  · omega
theorem node_bounds {g : Grid} {a : Int} (h : isNode g a = true) : gridOk g = true ∧ 0 ≤ a ∧ a < g.w * g.h ∧ a ≤ 15 := by
  simp only [isNode, inside, Bool.and_eq_true, decide_eq_true_eq] at h
  cases hg : gridOk g
  · simp [nodeCount, hg] at h; omega
  · have := grid_bounds hg
    simp only [nodeCount, hg, if_true] at h
    exact ⟨rfl, by omega, by omega, by omega⟩
theorem inside_bounds {n lo hi : Int} (h : inside n lo hi = true) : lo ≤ n ∧ n ≤ hi := by
  simpa [inside] using h
theorem div_bounds {g : Grid} {a : Int} (h : isNode g a = true) : 0 ≤ a / g.w ∧ a / g.w ≤ 15 ∧ 0 ≤ a % g.w ∧ a % g.w ≤ 3 := by
  obtain ⟨h1, h2, h3, h4⟩ := node_bounds h
  obtain ⟨a1, a2, a3, a4, a5, a6⟩ := grid_bounds h1
  have := Int.emod_nonneg a (show g.w ≠ 0 by omega)
  have := Int.emod_lt_of_pos a (show 0 < g.w by omega)
  have := Int.ediv_nonneg h2 (show 0 ≤ g.w by omega)
  have := Int.ediv_le_self g.w h2
  omega

theorem impl_inside (n lo hi : Int) (w : World) : Calls Tryz.prog 94 #[.int .i64 n, .int .i64 lo, .int .i64 hi] w fun e w' => e = .returned (.bool (inside n lo hi)) ∧ w = w' := by
  go_enter Tryz.func94, Tryz.ntmps94
  by_cases h : lo ≤ n
  · have h1 : decide (lo ≤ n) = true := decide_eq_true h
    go_wp2
    go_ret
    exact ⟨by simp [inside, h], rfl⟩
  · have h1 : decide (lo ≤ n) = false := decide_eq_false h
    go_wp2
    go_ret
    exact ⟨by simp [inside]; omega, rfl⟩
theorem spec_l01In (n lo hi : Int) (w : World) : Calls Tryz.prog 59 #[.int .i64 n, .int .i64 lo, .int .i64 hi] w fun e w' => e = .returned (.bool (inside n lo hi)) ∧ w = w' := by
  go_enter Tryz.func59, Tryz.ntmps59
  by_cases h : lo ≤ n
  · have h1 : decide (lo ≤ n) = true := decide_eq_true h
    go_wp2
    go_ret
    exact ⟨by simp [inside, h], rfl⟩
  · have h1 : decide (lo ≤ n) = false := decide_eq_false h
    go_wp2
    go_ret
    exact ⟨by simp [inside]; omega, rfl⟩
theorem impl_GridOk (g : Grid) (w : World) : Calls Tryz.prog 121 #[.agg #[.int .i64 g.w, .int .i64 g.h]] w fun e w' => e = .returned (.bool (gridOk g)) ∧ Below w.heap.size w w' := by
  go_enter Tryz.func121, Tryz.ntmps121
  cases h : inside g.w 1 4
  all_goals
    go_wp2_with (go_at_call 94; refine (impl_inside _ _ _ _).mono ?_; rintro e w' ⟨rfl, rfl⟩)
    go_ret
    exact ⟨by simp [gridOk, h], bel⟩
theorem impl_NodeCount (g : Grid) (w : World) : Calls Tryz.prog 89 #[.agg #[.int .i64 g.w, .int .i64 g.h]] w fun e w' => e = .returned (.int .i64 (nodeCount g)) ∧ Below w.heap.size w w' := by
  go_enter Tryz.func89, Tryz.ntmps89
  cases h : gridOk g
  · go_wp2_with (go_at_call 121; refine (impl_GridOk g _).mono ?_; rintro e w1 ⟨rfl, hb1⟩; obtain ⟨hc1, hf1, hz1⟩ := bcell hb1; (try simp only [szs] at hz1); have hb2 := (by first | exact bw_then hb2 hb1 | exact bw_then (bw_drewN _ hb2) hb1 | exact bw_then (bw_alloc _ hb2) hb1 | exact bw_then (bw_drew hb2) hb1 | exact bw_then HB hb1 | exact bw_then (bw_drewN _ HB) hb1 | exact bw_then (bw_alloc _ HB) hb1 | exact bw_then (bw_drew HB) hb1 | exact hb1); obtain ⟨hc2, hf2, hz2⟩ := bcell hb2; (try simp only [szs] at hz2); try (first | obtain ⟨hy1, hy2, hy3, hy4⟩ := lts4 hz2 | obtain ⟨hy1, hy2, hy3⟩ := lts3 hz2 | obtain ⟨hy1, hy2⟩ := lts2 hz2 | have hy1 := lts1 hz2); have hb9 := hb1)
    go_ret
    exact ⟨by simp [nodeCount, h], bel⟩
  · obtain ⟨a1, a2, a3, a4, a5, a6⟩ := grid_bounds h
    go_wp2_with (go_at_call 121; refine (impl_GridOk g _).mono ?_; rintro e w1 ⟨rfl, hb1⟩; obtain ⟨hc1, hf1, hz1⟩ := bcell hb1; (try simp only [szs] at hz1); have hb2 := (by first | exact bw_then hb2 hb1 | exact bw_then (bw_drewN _ hb2) hb1 | exact bw_then (bw_alloc _ hb2) hb1 | exact bw_then (bw_drew hb2) hb1 | exact bw_then HB hb1 | exact bw_then (bw_drewN _ HB) hb1 | exact bw_then (bw_alloc _ HB) hb1 | exact bw_then (bw_drew HB) hb1 | exact hb1); obtain ⟨hc2, hf2, hz2⟩ := bcell hb2; (try simp only [szs] at hz2); try (first | obtain ⟨hy1, hy2, hy3, hy4⟩ := lts4 hz2 | obtain ⟨hy1, hy2, hy3⟩ := lts3 hz2 | obtain ⟨hy1, hy2⟩ := lts2 hz2 | have hy1 := lts1 hz2); have hb9 := hb1)
    go_ret
    exact ⟨by simp [nodeCount, h], bel⟩
theorem impl_NodeAt (g : Grid) (x y : Int) (w : World) : Calls Tryz.prog 156 #[.agg #[.int .i64 g.w, .int .i64 g.h], .int .i64 x, .int .i64 y] w fun e w' => e = .returned (.int .i64 (nodeAt g x y)) ∧ Below w.heap.size w w' := by
  go_enter Tryz.func156, Tryz.ntmps156
  cases h : gridOk g
  · go_wp2_with (first | (go_at_call 121; refine (impl_GridOk g _).mono ?_; rintro e w1 ⟨rfl, hb1⟩; obtain ⟨hc1, hf1, hz1⟩ := bcell hb1; (try simp only [szs] at hz1); have hb2 := (by first | exact bw_then hb2 hb1 | exact bw_then (bw_drewN _ hb2) hb1 | exact bw_then (bw_alloc _ hb2) hb1 | exact bw_then (bw_drew hb2) hb1 | exact bw_then HB hb1 | exact bw_then (bw_drewN _ HB) hb1 | exact bw_then (bw_alloc _ HB) hb1 | exact bw_then (bw_drew HB) hb1 | exact hb1); obtain ⟨hc2, hf2, hz2⟩ := bcell hb2; (try simp only [szs] at hz2); try (first | obtain ⟨hy1, hy2, hy3, hy4⟩ := lts4 hz2 | obtain ⟨hy1, hy2, hy3⟩ := lts3 hz2 | obtain ⟨hy1, hy2⟩ := lts2 hz2 | have hy1 := lts1 hz2); have hb9 := hb1) | (go_at_call 94; refine (impl_inside _ _ _ _).mono ?_; rintro e w' ⟨rfl, rfl⟩))
    go_ret
    exact ⟨by simp [nodeAt, h], bel⟩
  · obtain ⟨a1, a2, a3, a4, a5, a6⟩ := grid_bounds h
    cases hx : inside x 0 (g.w - 1)
    · go_wp2_with (first | (go_at_call 121; refine (impl_GridOk g _).mono ?_; rintro e w1 ⟨rfl, hb1⟩; obtain ⟨hc1, hf1, hz1⟩ := bcell hb1; (try simp only [szs] at hz1); have hb2 := (by first | exact bw_then hb2 hb1 | exact bw_then (bw_drewN _ hb2) hb1 | exact bw_then (bw_alloc _ hb2) hb1 | exact bw_then (bw_drew hb2) hb1 | exact bw_then HB hb1 | exact bw_then (bw_drewN _ HB) hb1 | exact bw_then (bw_alloc _ HB) hb1 | exact bw_then (bw_drew HB) hb1 | exact hb1); obtain ⟨hc2, hf2, hz2⟩ := bcell hb2; (try simp only [szs] at hz2); try (first | obtain ⟨hy1, hy2, hy3, hy4⟩ := lts4 hz2 | obtain ⟨hy1, hy2, hy3⟩ := lts3 hz2 | obtain ⟨hy1, hy2⟩ := lts2 hz2 | have hy1 := lts1 hz2); have hb9 := hb1) | (go_at_call 94; refine (impl_inside _ _ _ _).mono ?_; rintro e w' ⟨rfl, rfl⟩))
      go_ret
      exact ⟨by simp [nodeAt, h, hx], bel⟩
    · cases hy : inside y 0 (g.h - 1)
      · go_wp2_with (first | (go_at_call 121; refine (impl_GridOk g _).mono ?_; rintro e w1 ⟨rfl, hb1⟩; obtain ⟨hc1, hf1, hz1⟩ := bcell hb1; (try simp only [szs] at hz1); have hb2 := (by first | exact bw_then hb2 hb1 | exact bw_then (bw_drewN _ hb2) hb1 | exact bw_then (bw_alloc _ hb2) hb1 | exact bw_then (bw_drew hb2) hb1 | exact bw_then HB hb1 | exact bw_then (bw_drewN _ HB) hb1 | exact bw_then (bw_alloc _ HB) hb1 | exact bw_then (bw_drew HB) hb1 | exact hb1); obtain ⟨hc2, hf2, hz2⟩ := bcell hb2; (try simp only [szs] at hz2); try (first | obtain ⟨hy1, hy2, hy3, hy4⟩ := lts4 hz2 | obtain ⟨hy1, hy2, hy3⟩ := lts3 hz2 | obtain ⟨hy1, hy2⟩ := lts2 hz2 | have hy1 := lts1 hz2); have hb9 := hb1) | (go_at_call 94; refine (impl_inside _ _ _ _).mono ?_; rintro e w' ⟨rfl, rfl⟩))
        go_ret
        exact ⟨by simp [nodeAt, h, hx, hy], bel⟩
      · obtain ⟨b1, b2⟩ := inside_bounds hy
        obtain ⟨b3, b4⟩ := inside_bounds hx
        have b5 : 0 ≤ y * g.w := Int.mul_nonneg b1 (by omega)
        have b6 : y * g.w ≤ 12 := by have := Int.mul_le_mul (show y ≤ 3 by omega) a2 (by omega) (by omega); omega
        go_wp2_with (first | (go_at_call 121; refine (impl_GridOk g _).mono ?_; rintro e w1 ⟨rfl, hb1⟩; obtain ⟨hc1, hf1, hz1⟩ := bcell hb1; (try simp only [szs] at hz1); have hb2 := (by first | exact bw_then hb2 hb1 | exact bw_then (bw_drewN _ hb2) hb1 | exact bw_then (bw_alloc _ hb2) hb1 | exact bw_then (bw_drew hb2) hb1 | exact bw_then HB hb1 | exact bw_then (bw_drewN _ HB) hb1 | exact bw_then (bw_alloc _ HB) hb1 | exact bw_then (bw_drew HB) hb1 | exact hb1); obtain ⟨hc2, hf2, hz2⟩ := bcell hb2; (try simp only [szs] at hz2); try (first | obtain ⟨hy1, hy2, hy3, hy4⟩ := lts4 hz2 | obtain ⟨hy1, hy2, hy3⟩ := lts3 hz2 | obtain ⟨hy1, hy2⟩ := lts2 hz2 | have hy1 := lts1 hz2); have hb9 := hb1) | (go_at_call 94; refine (impl_inside _ _ _ _).mono ?_; rintro e w' ⟨rfl, rfl⟩))
        go_ret
        exact ⟨by simp [nodeAt, h, hx, hy], bel⟩
theorem impl_isNode (g : Grid) (a : Int) (w : World) : Calls Tryz.prog 123 #[.agg #[.int .i64 g.w, .int .i64 g.h], .int .i64 a] w fun e w' => e = .returned (.bool (isNode g a)) ∧ Below w.heap.size w w' := by
  obtain ⟨a1, a2⟩ := count_bounds g
  go_enter Tryz.func123, Tryz.ntmps123
  go_wp2_with (first | (go_at_call 89; refine (impl_NodeCount g _).mono ?_; rintro e w1 ⟨rfl, hb1⟩; obtain ⟨hc1, hf1, hz1⟩ := bcell hb1; (try simp only [szs] at hz1); have hb2 := (by first | exact bw_then hb2 hb1 | exact bw_then (bw_drewN _ hb2) hb1 | exact bw_then (bw_alloc _ hb2) hb1 | exact bw_then (bw_drew hb2) hb1 | exact bw_then HB hb1 | exact bw_then (bw_drewN _ HB) hb1 | exact bw_then (bw_alloc _ HB) hb1 | exact bw_then (bw_drew HB) hb1 | exact hb1); obtain ⟨hc2, hf2, hz2⟩ := bcell hb2; (try simp only [szs] at hz2); try (first | obtain ⟨hy1, hy2, hy3, hy4⟩ := lts4 hz2 | obtain ⟨hy1, hy2, hy3⟩ := lts3 hz2 | obtain ⟨hy1, hy2⟩ := lts2 hz2 | have hy1 := lts1 hz2); have hb9 := hb1) | (go_at_call 94; refine (impl_inside _ _ _ _).mono ?_; rintro e w' ⟨rfl, rfl⟩))
  go_ret
  exact ⟨rfl, bel⟩
theorem impl_NextNode (g : Grid) (a p : Int) (w : World) : Calls Tryz.prog 146 #[.agg #[.int .i64 g.w, .int .i64 g.h], .int .i64 a, .int .i64 p] w fun e w' => e = .returned (.int .i64 (nextNode g a p)) ∧ Below w.heap.size w w' := by
  go_enter Tryz.func146, Tryz.ntmps146
  cases h : isNode g a
  · go_wp2_with (go_at_call 123; refine (impl_isNode g _ _).mono ?_; rintro e w1 ⟨rfl, hb1⟩; obtain ⟨hc1, hf1, hz1⟩ := bcell hb1; (try simp only [szs] at hz1); have hb2 := (by first | exact bw_then hb2 hb1 | exact bw_then (bw_drewN _ hb2) hb1 | exact bw_then (bw_alloc _ hb2) hb1 | exact bw_then (bw_drew hb2) hb1 | exact bw_then HB hb1 | exact bw_then (bw_drewN _ HB) hb1 | exact bw_then (bw_alloc _ HB) hb1 | exact bw_then (bw_drew HB) hb1 | exact hb1); obtain ⟨hc2, hf2, hz2⟩ := bcell hb2; (try simp only [szs] at hz2); try (first | obtain ⟨hy1, hy2, hy3, hy4⟩ := lts4 hz2 | obtain ⟨hy1, hy2, hy3⟩ := lts3 hz2 | obtain ⟨hy1, hy2⟩ := lts2 hz2 | have hy1 := lts1 hz2); have hb9 := hb1)
    go_ret
    exact ⟨by simp [nextNode, h], bel⟩
  · obtain ⟨c1, c2, c3, c4⟩ := node_bounds h
    obtain ⟨a1, a2, a3, a4, a5, a6⟩ := grid_bounds c1
    obtain ⟨d1, d2, d3, d4⟩ := div_bounds h
    clear c1
    have hp : p = 0 ∨ p = 1 ∨ p = 2 ∨ p = 3 ∨ p = 4 ∨ ((p == 0) = false ∧ (p == 1) = false ∧ (p == 2) = false ∧ (p == 3) = false ∧ (p == 4) = false) := by
      simp only [beq_eq_false_iff_ne]
      omega
    rcases hp with rfl | rfl | rfl | rfl | rfl | ⟨f0, f1, f2, f3, f4⟩
    all_goals
      go_wp2_with (first | (go_at_call 123; refine (impl_isNode g _ _).mono ?_; rintro e w1 ⟨rfl, hb1⟩; obtain ⟨hc1, hf1, hz1⟩ := bcell hb1; (try simp only [szs] at hz1); have hb2 := (by first | exact bw_then hb2 hb1 | exact bw_then (bw_drewN _ hb2) hb1 | exact bw_then (bw_alloc _ hb2) hb1 | exact bw_then (bw_drew hb2) hb1 | exact bw_then HB hb1 | exact bw_then (bw_drewN _ HB) hb1 | exact bw_then (bw_alloc _ HB) hb1 | exact bw_then (bw_drew HB) hb1 | exact hb1); obtain ⟨hc2, hf2, hz2⟩ := bcell hb2; (try simp only [szs] at hz2); try (first | obtain ⟨hy1, hy2, hy3, hy4⟩ := lts4 hz2 | obtain ⟨hy1, hy2, hy3⟩ := lts3 hz2 | obtain ⟨hy1, hy2⟩ := lts2 hz2 | have hy1 := lts1 hz2); have hb9 := hb1) | (go_at_call 156; refine (impl_NodeAt g _ _ _).mono ?_; rintro e w1 ⟨rfl, hb1⟩; obtain ⟨hc1, hf1, hz1⟩ := bcell hb1; (try simp only [szs] at hz1); have hb2 := (by first | exact bw_then hb2 hb1 | exact bw_then (bw_drewN _ hb2) hb1 | exact bw_then (bw_alloc _ hb2) hb1 | exact bw_then (bw_drew hb2) hb1 | exact bw_then HB hb1 | exact bw_then (bw_drewN _ HB) hb1 | exact bw_then (bw_alloc _ HB) hb1 | exact bw_then (bw_drew HB) hb1 | exact hb1); obtain ⟨hc2, hf2, hz2⟩ := bcell hb2; (try simp only [szs] at hz2); try (first | obtain ⟨hy1, hy2, hy3, hy4⟩ := lts4 hz2 | obtain ⟨hy1, hy2, hy3⟩ := lts3 hz2 | obtain ⟨hy1, hy2⟩ := lts2 hz2 | have hy1 := lts1 hz2); have hb9 := hb1))
      try (go_quiet (fail); go_wp2_with (first | (go_at_call 123; refine (impl_isNode g _ _).mono ?_; rintro e w1 ⟨rfl, hb1⟩; obtain ⟨hc1, hf1, hz1⟩ := bcell hb1; (try simp only [szs] at hz1); have hb2 := (by first | exact bw_then hb2 hb1 | exact bw_then (bw_drewN _ hb2) hb1 | exact bw_then (bw_alloc _ hb2) hb1 | exact bw_then (bw_drew hb2) hb1 | exact bw_then HB hb1 | exact bw_then (bw_drewN _ HB) hb1 | exact bw_then (bw_alloc _ HB) hb1 | exact bw_then (bw_drew HB) hb1 | exact hb1); obtain ⟨hc2, hf2, hz2⟩ := bcell hb2; (try simp only [szs] at hz2); try (first | obtain ⟨hy1, hy2, hy3, hy4⟩ := lts4 hz2 | obtain ⟨hy1, hy2, hy3⟩ := lts3 hz2 | obtain ⟨hy1, hy2⟩ := lts2 hz2 | have hy1 := lts1 hz2); have hb9 := hb1) | (go_at_call 156; refine (impl_NodeAt g _ _ _).mono ?_; rintro e w1 ⟨rfl, hb1⟩; obtain ⟨hc1, hf1, hz1⟩ := bcell hb1; (try simp only [szs] at hz1); have hb2 := (by first | exact bw_then hb2 hb1 | exact bw_then (bw_drewN _ hb2) hb1 | exact bw_then (bw_alloc _ hb2) hb1 | exact bw_then (bw_drew hb2) hb1 | exact bw_then HB hb1 | exact bw_then (bw_drewN _ HB) hb1 | exact bw_then (bw_alloc _ HB) hb1 | exact bw_then (bw_drew HB) hb1 | exact hb1); obtain ⟨hc2, hf2, hz2⟩ := bcell hb2; (try simp only [szs] at hz2); try (first | obtain ⟨hy1, hy2, hy3, hy4⟩ := lts4 hz2 | obtain ⟨hy1, hy2, hy3⟩ := lts3 hz2 | obtain ⟨hy1, hy2⟩ := lts2 hz2 | have hy1 := lts1 hz2); have hb9 := hb1)))
      go_ret
      exact ⟨by first | (simp [nextNode, h]; done) | (simp only [beq_eq_false_iff_ne] at f0 f1 f2 f3 f4; simp [nextNode, h, f0, f1, f2, f3, f4]), bel⟩
theorem spec_GridOk (g : Grid) (w : World) : Calls Tryz.prog 114 #[.agg #[.int .i64 g.w, .int .i64 g.h]] w fun e w' => e = .returned (.bool (gridOk g)) ∧ Below w.heap.size w w' := by
  go_enter Tryz.func114, Tryz.ntmps114
  cases h : inside g.w 1 4
  all_goals
    go_wp2_with (go_at_call 59; refine (spec_l01In _ _ _ _).mono ?_; rintro e w' ⟨rfl, rfl⟩)
    go_ret
    exact ⟨by simp [gridOk, h], bel⟩
theorem spec_NodeCount (g : Grid) (w : World) : Calls Tryz.prog 75 #[.agg #[.int .i64 g.w, .int .i64 g.h]] w fun e w' => e = .returned (.int .i64 (nodeCount g)) ∧ Below w.heap.size w w' := by
  go_enter Tryz.func75, Tryz.ntmps75
  cases h : gridOk g
  · go_wp2_with (go_at_call 114; refine (spec_GridOk g _).mono ?_; rintro e w1 ⟨rfl, hb1⟩; obtain ⟨hc1, hf1, hz1⟩ := bcell hb1; (try simp only [szs] at hz1); have hb2 := (by first | exact bw_then hb2 hb1 | exact bw_then (bw_drewN _ hb2) hb1 | exact bw_then (bw_alloc _ hb2) hb1 | exact bw_then (bw_drew hb2) hb1 | exact bw_then HB hb1 | exact bw_then (bw_drewN _ HB) hb1 | exact bw_then (bw_alloc _ HB) hb1 | exact bw_then (bw_drew HB) hb1 | exact hb1); obtain ⟨hc2, hf2, hz2⟩ := bcell hb2; (try simp only [szs] at hz2); try (first | obtain ⟨hy1, hy2, hy3, hy4⟩ := lts4 hz2 | obtain ⟨hy1, hy2, hy3⟩ := lts3 hz2 | obtain ⟨hy1, hy2⟩ := lts2 hz2 | have hy1 := lts1 hz2); have hb9 := hb1)
    go_ret
    exact ⟨by simp [nodeCount, h], bel⟩
  · obtain ⟨a1, a2, a3, a4, a5, a6⟩ := grid_bounds h
    go_wp2_with (go_at_call 114; refine (spec_GridOk g _).mono ?_; rintro e w1 ⟨rfl, hb1⟩; obtain ⟨hc1, hf1, hz1⟩ := bcell hb1; (try simp only [szs] at hz1); have hb2 := (by first | exact bw_then hb2 hb1 | exact bw_then (bw_drewN _ hb2) hb1 | exact bw_then (bw_alloc _ hb2) hb1 | exact bw_then (bw_drew hb2) hb1 | exact bw_then HB hb1 | exact bw_then (bw_drewN _ HB) hb1 | exact bw_then (bw_alloc _ HB) hb1 | exact bw_then (bw_drew HB) hb1 | exact hb1); obtain ⟨hc2, hf2, hz2⟩ := bcell hb2; (try simp only [szs] at hz2); try (first | obtain ⟨hy1, hy2, hy3, hy4⟩ := lts4 hz2 | obtain ⟨hy1, hy2, hy3⟩ := lts3 hz2 | obtain ⟨hy1, hy2⟩ := lts2 hz2 | have hy1 := lts1 hz2); have hb9 := hb1)
    go_ret
    exact ⟨by simp [nodeCount, h], bel⟩
theorem spec_NodeAt (g : Grid) (x y : Int) (w : World) : Calls Tryz.prog 118 #[.agg #[.int .i64 g.w, .int .i64 g.h], .int .i64 x, .int .i64 y] w fun e w' => e = .returned (.int .i64 (nodeAt g x y)) ∧ Below w.heap.size w w' := by
  go_enter Tryz.func118, Tryz.ntmps118
  cases h : gridOk g
  · go_wp2_with (first | (go_at_call 114; refine (spec_GridOk g _).mono ?_; rintro e w1 ⟨rfl, hb1⟩; obtain ⟨hc1, hf1, hz1⟩ := bcell hb1; (try simp only [szs] at hz1); have hb2 := (by first | exact bw_then hb2 hb1 | exact bw_then (bw_drewN _ hb2) hb1 | exact bw_then (bw_alloc _ hb2) hb1 | exact bw_then (bw_drew hb2) hb1 | exact bw_then HB hb1 | exact bw_then (bw_drewN _ HB) hb1 | exact bw_then (bw_alloc _ HB) hb1 | exact bw_then (bw_drew HB) hb1 | exact hb1); obtain ⟨hc2, hf2, hz2⟩ := bcell hb2; (try simp only [szs] at hz2); try (first | obtain ⟨hy1, hy2, hy3, hy4⟩ := lts4 hz2 | obtain ⟨hy1, hy2, hy3⟩ := lts3 hz2 | obtain ⟨hy1, hy2⟩ := lts2 hz2 | have hy1 := lts1 hz2); have hb9 := hb1) | (go_at_call 59; refine (spec_l01In _ _ _ _).mono ?_; rintro e w' ⟨rfl, rfl⟩))
    go_ret
    exact ⟨by simp [nodeAt, h], bel⟩
  · obtain ⟨a1, a2, a3, a4, a5, a6⟩ := grid_bounds h
    cases hx : inside x 0 (g.w - 1)
    · go_wp2_with (first | (go_at_call 114; refine (spec_GridOk g _).mono ?_; rintro e w1 ⟨rfl, hb1⟩; obtain ⟨hc1, hf1, hz1⟩ := bcell hb1; (try simp only [szs] at hz1); have hb2 := (by first | exact bw_then hb2 hb1 | exact bw_then (bw_drewN _ hb2) hb1 | exact bw_then (bw_alloc _ hb2) hb1 | exact bw_then (bw_drew hb2) hb1 | exact bw_then HB hb1 | exact bw_then (bw_drewN _ HB) hb1 | exact bw_then (bw_alloc _ HB) hb1 | exact bw_then (bw_drew HB) hb1 | exact hb1); obtain ⟨hc2, hf2, hz2⟩ := bcell hb2; (try simp only [szs] at hz2); try (first | obtain ⟨hy1, hy2, hy3, hy4⟩ := lts4 hz2 | obtain ⟨hy1, hy2, hy3⟩ := lts3 hz2 | obtain ⟨hy1, hy2⟩ := lts2 hz2 | have hy1 := lts1 hz2); have hb9 := hb1) | (go_at_call 59; refine (spec_l01In _ _ _ _).mono ?_; rintro e w' ⟨rfl, rfl⟩))
      go_ret
      exact ⟨by simp [nodeAt, h, hx], bel⟩
    · cases hy : inside y 0 (g.h - 1)
      · go_wp2_with (first | (go_at_call 114; refine (spec_GridOk g _).mono ?_; rintro e w1 ⟨rfl, hb1⟩; obtain ⟨hc1, hf1, hz1⟩ := bcell hb1; (try simp only [szs] at hz1); have hb2 := (by first | exact bw_then hb2 hb1 | exact bw_then (bw_drewN _ hb2) hb1 | exact bw_then (bw_alloc _ hb2) hb1 | exact bw_then (bw_drew hb2) hb1 | exact bw_then HB hb1 | exact bw_then (bw_drewN _ HB) hb1 | exact bw_then (bw_alloc _ HB) hb1 | exact bw_then (bw_drew HB) hb1 | exact hb1); obtain ⟨hc2, hf2, hz2⟩ := bcell hb2; (try simp only [szs] at hz2); try (first | obtain ⟨hy1, hy2, hy3, hy4⟩ := lts4 hz2 | obtain ⟨hy1, hy2, hy3⟩ := lts3 hz2 | obtain ⟨hy1, hy2⟩ := lts2 hz2 | have hy1 := lts1 hz2); have hb9 := hb1) | (go_at_call 59; refine (spec_l01In _ _ _ _).mono ?_; rintro e w' ⟨rfl, rfl⟩))
        go_ret
        exact ⟨by simp [nodeAt, h, hx, hy], bel⟩
      · obtain ⟨b1, b2⟩ := inside_bounds hy
        obtain ⟨b3, b4⟩ := inside_bounds hx
        have b5 : 0 ≤ y * g.w := Int.mul_nonneg b1 (by omega)
        have b6 : y * g.w ≤ 12 := by have := Int.mul_le_mul (show y ≤ 3 by omega) a2 (by omega) (by omega); omega
        go_wp2_with (first | (go_at_call 114; refine (spec_GridOk g _).mono ?_; rintro e w1 ⟨rfl, hb1⟩; obtain ⟨hc1, hf1, hz1⟩ := bcell hb1; (try simp only [szs] at hz1); have hb2 := (by first | exact bw_then hb2 hb1 | exact bw_then (bw_drewN _ hb2) hb1 | exact bw_then (bw_alloc _ hb2) hb1 | exact bw_then (bw_drew hb2) hb1 | exact bw_then HB hb1 | exact bw_then (bw_drewN _ HB) hb1 | exact bw_then (bw_alloc _ HB) hb1 | exact bw_then (bw_drew HB) hb1 | exact hb1); obtain ⟨hc2, hf2, hz2⟩ := bcell hb2; (try simp only [szs] at hz2); try (first | obtain ⟨hy1, hy2, hy3, hy4⟩ := lts4 hz2 | obtain ⟨hy1, hy2, hy3⟩ := lts3 hz2 | obtain ⟨hy1, hy2⟩ := lts2 hz2 | have hy1 := lts1 hz2); have hb9 := hb1) | (go_at_call 59; refine (spec_l01In _ _ _ _).mono ?_; rintro e w' ⟨rfl, rfl⟩))
        go_ret
        exact ⟨by simp [nodeAt, h, hx, hy], bel⟩
theorem spec_l02Has (g : Grid) (a : Int) (w : World) : Calls Tryz.prog 116 #[.agg #[.int .i64 g.w, .int .i64 g.h], .int .i64 a] w fun e w' => e = .returned (.bool (isNode g a)) ∧ Below w.heap.size w w' := by
  obtain ⟨a1, a2⟩ := count_bounds g
  go_enter Tryz.func116, Tryz.ntmps116
  go_wp2_with (first | (go_at_call 75; refine (spec_NodeCount g _).mono ?_; rintro e w1 ⟨rfl, hb1⟩; obtain ⟨hc1, hf1, hz1⟩ := bcell hb1; (try simp only [szs] at hz1); have hb2 := (by first | exact bw_then hb2 hb1 | exact bw_then (bw_drewN _ hb2) hb1 | exact bw_then (bw_alloc _ hb2) hb1 | exact bw_then (bw_drew hb2) hb1 | exact bw_then HB hb1 | exact bw_then (bw_drewN _ HB) hb1 | exact bw_then (bw_alloc _ HB) hb1 | exact bw_then (bw_drew HB) hb1 | exact hb1); obtain ⟨hc2, hf2, hz2⟩ := bcell hb2; (try simp only [szs] at hz2); try (first | obtain ⟨hy1, hy2, hy3, hy4⟩ := lts4 hz2 | obtain ⟨hy1, hy2, hy3⟩ := lts3 hz2 | obtain ⟨hy1, hy2⟩ := lts2 hz2 | have hy1 := lts1 hz2); have hb9 := hb1) | (go_at_call 59; refine (spec_l01In _ _ _ _).mono ?_; rintro e w' ⟨rfl, rfl⟩))
  go_ret
  exact ⟨rfl, bel⟩
theorem spec_NextNode (g : Grid) (a p : Int) (w : World) : Calls Tryz.prog 81 #[.agg #[.int .i64 g.w, .int .i64 g.h], .int .i64 a, .int .i64 p] w fun e w' => e = .returned (.int .i64 (nextNode g a p)) ∧ Below w.heap.size w w' := by
  go_enter Tryz.func81, Tryz.ntmps81
  cases h : isNode g a
  · go_wp2_with (go_at_call 116; refine (spec_l02Has g _ _).mono ?_; rintro e w1 ⟨rfl, hb1⟩; obtain ⟨hc1, hf1, hz1⟩ := bcell hb1; (try simp only [szs] at hz1); have hb2 := (by first | exact bw_then hb2 hb1 | exact bw_then (bw_drewN _ hb2) hb1 | exact bw_then (bw_alloc _ hb2) hb1 | exact bw_then (bw_drew hb2) hb1 | exact bw_then HB hb1 | exact bw_then (bw_drewN _ HB) hb1 | exact bw_then (bw_alloc _ HB) hb1 | exact bw_then (bw_drew HB) hb1 | exact hb1); obtain ⟨hc2, hf2, hz2⟩ := bcell hb2; (try simp only [szs] at hz2); try (first | obtain ⟨hy1, hy2, hy3, hy4⟩ := lts4 hz2 | obtain ⟨hy1, hy2, hy3⟩ := lts3 hz2 | obtain ⟨hy1, hy2⟩ := lts2 hz2 | have hy1 := lts1 hz2); have hb9 := hb1)
    go_ret
    exact ⟨by simp [nextNode, h], bel⟩
  · obtain ⟨c1, c2, c3, c4⟩ := node_bounds h
    obtain ⟨a1, a2, a3, a4, a5, a6⟩ := grid_bounds c1
    obtain ⟨d1, d2, d3, d4⟩ := div_bounds h
    clear c1
    have hp : p = 0 ∨ p = 1 ∨ p = 2 ∨ p = 3 ∨ p = 4 ∨ ((p == 0) = false ∧ (p == 1) = false ∧ (p == 2) = false ∧ (p == 3) = false ∧ (p == 4) = false) := by
      simp only [beq_eq_false_iff_ne]
      omega
    rcases hp with rfl | rfl | rfl | rfl | rfl | ⟨f0, f1, f2, f3, f4⟩
    all_goals
      go_wp2_with (first | (go_at_call 116; refine (spec_l02Has g _ _).mono ?_; rintro e w1 ⟨rfl, hb1⟩; obtain ⟨hc1, hf1, hz1⟩ := bcell hb1; (try simp only [szs] at hz1); have hb2 := (by first | exact bw_then hb2 hb1 | exact bw_then (bw_drewN _ hb2) hb1 | exact bw_then (bw_alloc _ hb2) hb1 | exact bw_then (bw_drew hb2) hb1 | exact bw_then HB hb1 | exact bw_then (bw_drewN _ HB) hb1 | exact bw_then (bw_alloc _ HB) hb1 | exact bw_then (bw_drew HB) hb1 | exact hb1); obtain ⟨hc2, hf2, hz2⟩ := bcell hb2; (try simp only [szs] at hz2); try (first | obtain ⟨hy1, hy2, hy3, hy4⟩ := lts4 hz2 | obtain ⟨hy1, hy2, hy3⟩ := lts3 hz2 | obtain ⟨hy1, hy2⟩ := lts2 hz2 | have hy1 := lts1 hz2); have hb9 := hb1) | (go_at_call 118; refine (spec_NodeAt g _ _ _).mono ?_; rintro e w1 ⟨rfl, hb1⟩; obtain ⟨hc1, hf1, hz1⟩ := bcell hb1; (try simp only [szs] at hz1); have hb2 := (by first | exact bw_then hb2 hb1 | exact bw_then (bw_drewN _ hb2) hb1 | exact bw_then (bw_alloc _ hb2) hb1 | exact bw_then (bw_drew hb2) hb1 | exact bw_then HB hb1 | exact bw_then (bw_drewN _ HB) hb1 | exact bw_then (bw_alloc _ HB) hb1 | exact bw_then (bw_drew HB) hb1 | exact hb1); obtain ⟨hc2, hf2, hz2⟩ := bcell hb2; (try simp only [szs] at hz2); try (first | obtain ⟨hy1, hy2, hy3, hy4⟩ := lts4 hz2 | obtain ⟨hy1, hy2, hy3⟩ := lts3 hz2 | obtain ⟨hy1, hy2⟩ := lts2 hz2 | have hy1 := lts1 hz2); have hb9 := hb1))
      try (go_quiet (fail); go_wp2_with (first | (go_at_call 116; refine (spec_l02Has g _ _).mono ?_; rintro e w1 ⟨rfl, hb1⟩; obtain ⟨hc1, hf1, hz1⟩ := bcell hb1; (try simp only [szs] at hz1); have hb2 := (by first | exact bw_then hb2 hb1 | exact bw_then (bw_drewN _ hb2) hb1 | exact bw_then (bw_alloc _ hb2) hb1 | exact bw_then (bw_drew hb2) hb1 | exact bw_then HB hb1 | exact bw_then (bw_drewN _ HB) hb1 | exact bw_then (bw_alloc _ HB) hb1 | exact bw_then (bw_drew HB) hb1 | exact hb1); obtain ⟨hc2, hf2, hz2⟩ := bcell hb2; (try simp only [szs] at hz2); try (first | obtain ⟨hy1, hy2, hy3, hy4⟩ := lts4 hz2 | obtain ⟨hy1, hy2, hy3⟩ := lts3 hz2 | obtain ⟨hy1, hy2⟩ := lts2 hz2 | have hy1 := lts1 hz2); have hb9 := hb1) | (go_at_call 118; refine (spec_NodeAt g _ _ _).mono ?_; rintro e w1 ⟨rfl, hb1⟩; obtain ⟨hc1, hf1, hz1⟩ := bcell hb1; (try simp only [szs] at hz1); have hb2 := (by first | exact bw_then hb2 hb1 | exact bw_then (bw_drewN _ hb2) hb1 | exact bw_then (bw_alloc _ hb2) hb1 | exact bw_then (bw_drew hb2) hb1 | exact bw_then HB hb1 | exact bw_then (bw_drewN _ HB) hb1 | exact bw_then (bw_alloc _ HB) hb1 | exact bw_then (bw_drew HB) hb1 | exact hb1); obtain ⟨hc2, hf2, hz2⟩ := bcell hb2; (try simp only [szs] at hz2); try (first | obtain ⟨hy1, hy2, hy3, hy4⟩ := lts4 hz2 | obtain ⟨hy1, hy2, hy3⟩ := lts3 hz2 | obtain ⟨hy1, hy2⟩ := lts2 hz2 | have hy1 := lts1 hz2); have hb9 := hb1)))
      go_ret
      exact ⟨by first | (simp [nextNode, h]; done) | (simp only [beq_eq_false_iff_ne] at f0 f1 f2 f3 f4; simp [nextNode, h, f0, f1, f2, f3, f4]), bel⟩
end Go.Proofs.YteeebfeljjghhaaGreat
/- Meshes: which channels lead to a neighbor, which exist; for all meshes of at most a million broken channels. -/
set_option linter.unusedVariables false
set_option linter.unusedSimpArgs false
namespace Go.Proofs.YteeebfeljjghhaaGreat
open Go.RowKit Go.Proofs.YteeebfeljjghhaaGreatW.PrintWords
open NoC

theorem impl_leads (g : Grid) (c : Int) (w : World) : Calls Tryz.prog 144 #[.agg #[.int .i64 g.w, .int .i64 g.h], .int .i64 c] w fun e w' => e = .returned (.bool (leads g c)) ∧ Below w.heap.size w w' := by
  obtain ⟨a1, a2⟩ := count_bounds g
  go_enter Tryz.func144, Tryz.ntmps144
  cases h : inside c 0 (4 * nodeCount g - 1)
  · go_wp2_with (first | (go_at_call 89; refine (impl_NodeCount g _).mono ?_; rintro e w1 ⟨rfl, hb1⟩; obtain ⟨hc1, hf1, hz1⟩ := bcell hb1; (try simp only [szs] at hz1); have hb2 := (by first | exact bw_then hb2 hb1 | exact bw_then (bw_drewN _ hb2) hb1 | exact bw_then (bw_alloc _ hb2) hb1 | exact bw_then (bw_drew hb2) hb1 | exact bw_then HB hb1 | exact bw_then (bw_drewN _ HB) hb1 | exact bw_then (bw_alloc _ HB) hb1 | exact bw_then (bw_drew HB) hb1 | exact hb1); obtain ⟨hc2, hf2, hz2⟩ := bcell hb2; (try simp only [szs] at hz2); try (first | obtain ⟨hy1, hy2, hy3, hy4⟩ := lts4 hz2 | obtain ⟨hy1, hy2, hy3⟩ := lts3 hz2 | obtain ⟨hy1, hy2⟩ := lts2 hz2 | have hy1 := lts1 hz2); have hb9 := hb1) | (go_at_call 94; refine (impl_inside _ _ _ _).mono ?_; rintro e w' ⟨rfl, rfl⟩))
    go_ret
    exact ⟨by simp [leads, h], bel⟩
  · obtain ⟨b1, b2⟩ := inside_bounds h
    go_wp2_with (first | (go_at_call 89; refine (impl_NodeCount g _).mono ?_; rintro e w1 ⟨rfl, hb1⟩; obtain ⟨hc1, hf1, hz1⟩ := bcell hb1; (try simp only [szs] at hz1); have hb2 := (by first | exact bw_then hb2 hb1 | exact bw_then (bw_drewN _ hb2) hb1 | exact bw_then (bw_alloc _ hb2) hb1 | exact bw_then (bw_drew hb2) hb1 | exact bw_then HB hb1 | exact bw_then (bw_drewN _ HB) hb1 | exact bw_then (bw_alloc _ HB) hb1 | exact bw_then (bw_drew HB) hb1 | exact hb1); obtain ⟨hc2, hf2, hz2⟩ := bcell hb2; (try simp only [szs] at hz2); try (first | obtain ⟨hy1, hy2, hy3, hy4⟩ := lts4 hz2 | obtain ⟨hy1, hy2, hy3⟩ := lts3 hz2 | obtain ⟨hy1, hy2⟩ := lts2 hz2 | have hy1 := lts1 hz2); have hb9 := hb1) | (go_at_call 94; refine (impl_inside _ _ _ _).mono ?_; rintro e w' ⟨rfl, rfl⟩) | (go_at_call 146; refine (impl_NextNode g _ _ _).mono ?_; rintro e w1 ⟨rfl, hb1⟩; obtain ⟨hc1, hf1, hz1⟩ := bcell hb1; (try simp only [szs] at hz1); have hb2 := (by first | exact bw_then hb2 hb1 | exact bw_then (bw_drewN _ hb2) hb1 | exact bw_then (bw_alloc _ hb2) hb1 | exact bw_then (bw_drew hb2) hb1 | exact bw_then HB hb1 | exact bw_then (bw_drewN _ HB) hb1 | exact bw_then (bw_alloc _ HB) hb1 | exact bw_then (bw_drew HB) hb1 | exact hb1); obtain ⟨hc2, hf2, hz2⟩ := bcell hb2; (try simp only [szs] at hz2); try (first | obtain ⟨hy1, hy2, hy3, hy4⟩ := lts4 hz2 | obtain ⟨hy1, hy2, hy3⟩ := lts3 hz2 | obtain ⟨hy1, hy2⟩ := lts2 hz2 | have hy1 := lts1 hz2); have hb9 := hb1))
    go_ret
    exact ⟨by simp [leads, h], bel⟩
theorem spec_l03Leads (g : Grid) (c : Int) (w : World) : Calls Tryz.prog 157 #[.agg #[.int .i64 g.w, .int .i64 g.h], .int .i64 c] w fun e w' => e = .returned (.bool (leads g c)) ∧ Below w.heap.size w w' := by
  obtain ⟨a1, a2⟩ := count_bounds g
  go_enter Tryz.func157, Tryz.ntmps157
  cases h : inside c 0 (4 * nodeCount g - 1)
  · go_wp2_with (first | (go_at_call 75; refine (spec_NodeCount g _).mono ?_; rintro e w1 ⟨rfl, hb1⟩; obtain ⟨hc1, hf1, hz1⟩ := bcell hb1; (try simp only [szs] at hz1); have hb2 := (by first | exact bw_then hb2 hb1 | exact bw_then (bw_drewN _ hb2) hb1 | exact bw_then (bw_alloc _ hb2) hb1 | exact bw_then (bw_drew hb2) hb1 | exact bw_then HB hb1 | exact bw_then (bw_drewN _ HB) hb1 | exact bw_then (bw_alloc _ HB) hb1 | exact bw_then (bw_drew HB) hb1 | exact hb1); obtain ⟨hc2, hf2, hz2⟩ := bcell hb2; (try simp only [szs] at hz2); try (first | obtain ⟨hy1, hy2, hy3, hy4⟩ := lts4 hz2 | obtain ⟨hy1, hy2, hy3⟩ := lts3 hz2 | obtain ⟨hy1, hy2⟩ := lts2 hz2 | have hy1 := lts1 hz2); have hb9 := hb1) | (go_at_call 59; refine (spec_l01In _ _ _ _).mono ?_; rintro e w' ⟨rfl, rfl⟩))
    go_ret
    exact ⟨by simp [leads, h], bel⟩
  · obtain ⟨b1, b2⟩ := inside_bounds h
    go_wp2_with (first | (go_at_call 75; refine (spec_NodeCount g _).mono ?_; rintro e w1 ⟨rfl, hb1⟩; obtain ⟨hc1, hf1, hz1⟩ := bcell hb1; (try simp only [szs] at hz1); have hb2 := (by first | exact bw_then hb2 hb1 | exact bw_then (bw_drewN _ hb2) hb1 | exact bw_then (bw_alloc _ hb2) hb1 | exact bw_then (bw_drew hb2) hb1 | exact bw_then HB hb1 | exact bw_then (bw_drewN _ HB) hb1 | exact bw_then (bw_alloc _ HB) hb1 | exact bw_then (bw_drew HB) hb1 | exact hb1); obtain ⟨hc2, hf2, hz2⟩ := bcell hb2; (try simp only [szs] at hz2); try (first | obtain ⟨hy1, hy2, hy3, hy4⟩ := lts4 hz2 | obtain ⟨hy1, hy2, hy3⟩ := lts3 hz2 | obtain ⟨hy1, hy2⟩ := lts2 hz2 | have hy1 := lts1 hz2); have hb9 := hb1) | (go_at_call 59; refine (spec_l01In _ _ _ _).mono ?_; rintro e w' ⟨rfl, rfl⟩) | (go_at_call 81; refine (spec_NextNode g _ _ _).mono ?_; rintro e w1 ⟨rfl, hb1⟩; obtain ⟨hc1, hf1, hz1⟩ := bcell hb1; (try simp only [szs] at hz1); have hb2 := (by first | exact bw_then hb2 hb1 | exact bw_then (bw_drewN _ hb2) hb1 | exact bw_then (bw_alloc _ hb2) hb1 | exact bw_then (bw_drew hb2) hb1 | exact bw_then HB hb1 | exact bw_then (bw_drewN _ HB) hb1 | exact bw_then (bw_alloc _ HB) hb1 | exact bw_then (bw_drew HB) hb1 | exact hb1); obtain ⟨hc2, hf2, hz2⟩ := bcell hb2; (try simp only [szs] at hz2); try (first | obtain ⟨hy1, hy2, hy3, hy4⟩ := lts4 hz2 | obtain ⟨hy1, hy2, hy3⟩ := lts3 hz2 | obtain ⟨hy1, hy2⟩ := lts2 hz2 | have hy1 := lts1 hz2); have hb9 := hb1))
    go_ret
    exact ⟨by simp [leads, h], bel⟩

theorem impl_MeshOk (m : Mesh) (A : Option Addr) (c : Nat) (w : World) (hr : Kd.C (Kd.int .i64) w A m.br.length m.br) (hn : m.br.length ≤ 2097152) :
    Calls Tryz.prog 136 #[.agg #[.int .i64 m.g.w, .int .i64 m.g.h, .slice A m.br.length c]] w fun e w' => e = .returned (.bool (meshOk m)) ∧ Below w.heap.size w w' := by
  go_enter Tryz.func136, Tryz.ntmps136
  go_wp2
  go_loopw [8] (fun i wr => ∃ k : Nat, k ≤ m.br.length ∧ i = .int .i64 k ∧ Hid (∀ j : Nat, j < k → brokenAt m j = true) ∧ Below (w.alloc (.cells #[.int .i64 m.g.w, .int .i64 m.g.h, .slice A m.br.length c] 37)).heap.size (w.alloc (.cells #[.int .i64 m.g.w, .int .i64 m.g.h, .slice A m.br.length c] 37)) wr) (fun i _ => m.br.length - (intOf i).toNat)
  case atStart => exact ⟨0, Nat.zero_le _, rfl, Lib.hid fun j h => absurd h (Nat.not_lt_zero _), Below.refl _ _⟩
  case round =>
    obtain ⟨k, hk, rfl, HA, HB⟩ := hrel
    obtain ⟨hc0, hf0, hz0⟩ := bcell HB
    simp only [szs] at hz0
    by_cases hlt : k < m.br.length
    · obtain ⟨b, off, rfl, hb, hx⟩ := rdI_at hr k hlt
      have hxk := hx k hlt
      have hx1 := hx (k - 1) (by omega)
      go_wp2_with (go_at_call 144; refine (impl_leads m.g _ _).mono ?_; rintro e w1 ⟨rfl, hb1⟩; obtain ⟨hc1, hf1, hz1⟩ := bcell hb1; (try simp only [szs] at hz1); have hb2 := (by first | exact bw_then hb2 hb1 | exact bw_then (bw_drewN _ hb2) hb1 | exact bw_then (bw_alloc _ hb2) hb1 | exact bw_then (bw_drew hb2) hb1 | exact bw_then HB hb1 | exact bw_then (bw_drewN _ HB) hb1 | exact bw_then (bw_alloc _ HB) hb1 | exact bw_then (bw_drew HB) hb1 | exact hb1); obtain ⟨hc2, hf2, hz2⟩ := bcell hb2; (try simp only [szs] at hz2); try (first | obtain ⟨hy1, hy2, hy3, hy4⟩ := lts4 hz2 | obtain ⟨hy1, hy2, hy3⟩ := lts3 hz2 | obtain ⟨hy1, hy2⟩ := lts2 hz2 | have hy1 := lts1 hz2); have hb9 := hb1)
      · go_ret
        exact ⟨ret_bool (meshOk_no k hlt (brokenAt_no2 (by assumption) (by assumption))).symm, bel⟩
      · go_roundw
        case rel => exact ⟨k + 1, by omega, by go_num, Lib.hid (upto HA.out (brokenAt_yes1 (by assumption) (by assumption))), bel⟩
        case measure => simp [intOf]; omega
      · go_roundw
        case rel => exact ⟨k + 1, by omega, by go_num, Lib.hid (upto HA.out (brokenAt_yes0 (by assumption) (by assumption))), bel⟩
        case measure => simp [intOf]; omega
      · go_ret
        exact ⟨ret_bool (meshOk_no k hlt (brokenAt_no1 (by assumption))).symm, bel⟩
    · go_wp2_with (go_at_call 121; refine (impl_GridOk m.g _).mono ?_; rintro e w1 ⟨rfl, hb1⟩; obtain ⟨hc1, hf1, hz1⟩ := bcell hb1; (try simp only [szs] at hz1); have hb2 := (by first | exact bw_then hb2 hb1 | exact bw_then (bw_drewN _ hb2) hb1 | exact bw_then (bw_alloc _ hb2) hb1 | exact bw_then (bw_drew hb2) hb1 | exact bw_then HB hb1 | exact bw_then (bw_drewN _ HB) hb1 | exact bw_then (bw_alloc _ HB) hb1 | exact bw_then (bw_drew HB) hb1 | exact hb1); obtain ⟨hc2, hf2, hz2⟩ := bcell hb2; (try simp only [szs] at hz2); try (first | obtain ⟨hy1, hy2, hy3, hy4⟩ := lts4 hz2 | obtain ⟨hy1, hy2, hy3⟩ := lts3 hz2 | obtain ⟨hy1, hy2⟩ := lts2 hz2 | have hy1 := lts1 hz2); have hb9 := hb1)
      go_ret
      exact ⟨ret_bool (meshOk_yes (fun j hj => HA.out j (by omega))).symm, bel⟩
theorem spec_MeshOk (m : Mesh) (A : Option Addr) (c : Nat) (w : World) (hr : Kd.C (Kd.int .i64) w A m.br.length m.br) (hn : m.br.length ≤ 2097152) :
  Calls Tryz.prog 149 #[.agg #[.int .i64 m.g.w, .int .i64 m.g.h, .slice A m.br.length c]] w fun e w' => e = .returned (.bool (meshOk m)) ∧ Below w.heap.size w w' := by
 go_enter Tryz.func149, Tryz.ntmps149
 cases hg : gridOk m.g
 ·go_wp2_with (go_at_call 114; refine (spec_GridOk m.g _).mono ?_; rintro e w1 ⟨rfl, hb1⟩; obtain ⟨hc1, hf1, hz1⟩ := bcell hb1; (try simp only [szs] at hz1); have hb2 := (by first | exact bw_then hb2 hb1 | exact bw_then (bw_drewN _ hb2) hb1 | exact bw_then (bw_alloc _ hb2) hb1 | exact bw_then (bw_drew hb2) hb1 | exact bw_then HB hb1 | exact bw_then (bw_drewN _ HB) hb1 | exact bw_then (bw_alloc _ HB) hb1 | exact bw_then (bw_drew HB) hb1 | exact hb1); obtain ⟨hc2, hf2, hz2⟩ := bcell hb2; (try simp only [szs] at hz2); try (first | obtain ⟨hy1, hy2, hy3, hy4⟩ := lts4 hz2 | obtain ⟨hy1, hy2, hy3⟩ := lts3 hz2 | obtain ⟨hy1, hy2⟩ := lts2 hz2 | have hy1 := lts1 hz2); have hb9 := hb1)
  go_ret
  exact ⟨ret_bool (by simp [meshOk, hg]), bel⟩
 go_wp2_with (go_at_call 114; refine (spec_GridOk m.g _).mono ?_; rintro e w1 ⟨rfl, hb1⟩; obtain ⟨hc1, hf1, hz1⟩ := bcell hb1; (try simp only [szs] at hz1); have hb2 := (by first | exact bw_then hb2 hb1 | exact bw_then (bw_drewN _ hb2) hb1 | exact bw_then (bw_alloc _ hb2) hb1 | exact bw_then (bw_drew hb2) hb1 | exact bw_then HB hb1 | exact bw_then (bw_drewN _ HB) hb1 | exact bw_then (bw_alloc _ HB) hb1 | exact bw_then (bw_drew HB) hb1 | exact hb1); obtain ⟨hc2, hf2, hz2⟩ := bcell hb2; (try simp only [szs] at hz2); try (first | obtain ⟨hy1, hy2, hy3, hy4⟩ := lts4 hz2 | obtain ⟨hy1, hy2, hy3⟩ := lts3 hz2 | obtain ⟨hy1, hy2⟩ := lts2 hz2 | have hy1 := lts1 hz2); have hb9 := hb1)
 go_loopw [3] (fun i wr => ∃ k : Nat, k ≤ m.br.length ∧ i = .int .i64 k ∧ Hid (∀ j : Nat, j < k → brokenAt m j = true) ∧ Below (w.alloc (.cells #[.int .i64 m.g.w, .int .i64 m.g.h, .slice A m.br.length c] 37)).heap.size (w.alloc (.cells #[.int .i64 m.g.w, .int .i64 m.g.h, .slice A m.br.length c] 37)) wr) (fun i _ => m.br.length - (intOf i).toNat)
 case atStart => exact ⟨0, Nat.zero_le _, rfl, Lib.hid fun j h => absurd h (Nat.not_lt_zero _), bel⟩
 case round =>
  obtain ⟨k, hk, rfl, HA, HB⟩ := hrel
  obtain ⟨hc0, hf0, hz0⟩ := bcell HB
  simp only [szs] at hz0
  by_cases hlt : k < m.br.length
  ·obtain ⟨b, off, rfl, hb, hx⟩ := rdI_at hr k hlt
   have hxk := hx k hlt
   have hx1 := hx (k - 1) (by omega)
   have i0 : (0 : Int) ≤ (k : Int) := by omega
   have i1 : (k : Int) < (m.br.length : Int) := by omega
   cases hl : leads m.g (ri m.br k)
   ·go_wp2_with fail
    refine wp_region_far (w.alloc (.cells #[.int .i64 m.g.w, .int .i64 m.g.h, .slice (some ⟨b, off, none⟩) m.br.length c] 37)) (by kernel_rfl) (by kernel_rfl) bel ?_
    have hqc := far_cell (w.alloc (.cells #[.int .i64 m.g.w, .int .i64 m.g.h, .slice (some ⟨b, off, none⟩) m.br.length c] 37))
    have hqf := far_frozen (w.alloc (.cells #[.int .i64 m.g.w, .int .i64 m.g.h, .slice (some ⟨b, off, none⟩) m.br.length c] 37))
    repeat (first | go_big_quiet_step ((go_at_call 157; exact far_call (Calls.says (spec_l03Leads m.g _ _) (congrArg Value.bool hl)))) | quiet_step ((go_at_call 157; exact far_call (Calls.says (spec_l03Leads m.g _ _) (congrArg Value.bool hl)))))
    refine wpQuiet_nil ?_
    intro wq hbq
    clear hqc hqf
    obtain ⟨hcq, hfq, hzq⟩ := bcell hbq
    try simp only [szs] at hzq
    go_wp2
    go_ret
    exact ⟨ret_bool (meshOk_no k hlt (brokenAt_no1 (by simp [hl]))).symm, bel⟩
   ·by_cases h0 : 0 < k
    ·have hd : decide ((0 : Int) < (k : Int)) = true := decide_eq_true (by omega)
     go_wp2_with fail
     refine wp_region_far (w.alloc (.cells #[.int .i64 m.g.w, .int .i64 m.g.h, .slice (some ⟨b, off, none⟩) m.br.length c] 37)) (by kernel_rfl) (by kernel_rfl) bel ?_
     have hqc := far_cell (w.alloc (.cells #[.int .i64 m.g.w, .int .i64 m.g.h, .slice (some ⟨b, off, none⟩) m.br.length c] 37))
     have hqf := far_frozen (w.alloc (.cells #[.int .i64 m.g.w, .int .i64 m.g.h, .slice (some ⟨b, off, none⟩) m.br.length c] 37))
     repeat (first | go_big_quiet_step ((go_at_call 157; exact far_call (Calls.says (spec_l03Leads m.g _ _) (congrArg Value.bool hl)))) | quiet_step ((go_at_call 157; exact far_call (Calls.says (spec_l03Leads m.g _ _) (congrArg Value.bool hl)))))
     refine wpQuiet_nil ?_
     intro wq hbq
     clear hqc hqf
     obtain ⟨hcq, hfq, hzq⟩ := bcell hbq
     try simp only [szs] at hzq
     go_wp2
     ·go_ret
      exact ⟨ret_bool (meshOk_no k hlt (brokenAt_no2 (by assumption) (by assumption))).symm, bel⟩
     ·go_roundw
      case rel => exact ⟨k + 1, by omega, by go_num, Lib.hid (upto HA.out (brokenAt_yes1 (by assumption) (by omega))), bel⟩
      case measure => simp [intOf]; omega
    ·have hd : decide ((0 : Int) < (k : Int)) = false := decide_eq_false (by omega)
     go_wp2_with fail
     refine wp_region_far (w.alloc (.cells #[.int .i64 m.g.w, .int .i64 m.g.h, .slice (some ⟨b, off, none⟩) m.br.length c] 37)) (by kernel_rfl) (by kernel_rfl) bel ?_
     have hqc := far_cell (w.alloc (.cells #[.int .i64 m.g.w, .int .i64 m.g.h, .slice (some ⟨b, off, none⟩) m.br.length c] 37))
     have hqf := far_frozen (w.alloc (.cells #[.int .i64 m.g.w, .int .i64 m.g.h, .slice (some ⟨b, off, none⟩) m.br.length c] 37))
     repeat (first | go_big_quiet_step ((go_at_call 157; exact far_call (Calls.says (spec_l03Leads m.g _ _) (congrArg Value.bool hl)))) | quiet_step ((go_at_call 157; exact far_call (Calls.says (spec_l03Leads m.g _ _) (congrArg Value.bool hl)))))
     refine wpQuiet_nil ?_
     intro wq hbq
     clear hqc hqf
     obtain ⟨hcq, hfq, hzq⟩ := bcell hbq
     try simp only [szs] at hzq
     go_wp2
     go_roundw
     case rel => exact ⟨k + 1, by omega, by go_num, Lib.hid (upto HA.out (brokenAt_yes0 (by assumption) (by assumption))), bel⟩
     case measure => simp [intOf]; omega
  ·go_wp2
   go_ret
   exact ⟨ret_bool (by rw [meshOk_yes (fun j hj => HA.out j (by omega)), hg]), bel⟩

theorem slices_Index_int (l : List Int) (x : Int) (A : Option Addr) (c : Nat) (w : World) (hr : Kd.C (Kd.int .i64) w A l.length l) (hn : l.length ≤ 2097152) :
    Calls Tryz.prog 155 #[.slice A l.length c, .int .i64 x] w fun e w' => e = .returned (.int .i64 (idx l x)) ∧ w = w' := by
  go_enter Tryz.func155, Tryz.ntmps155
  go_wp2
  go_loop [8] (fun i => ∃ k : Nat, k ≤ l.length ∧ i = .int .i64 k ∧ Hid (∀ j : Nat, j < k → ¬ ri l j = x)) (fun i => l.length - (intOf i).toNat)
  case atStart => exact ⟨0, Nat.zero_le _, rfl, Lib.hid fun j h => absurd h (Nat.not_lt_zero _)⟩
  case round =>
    obtain ⟨k, hk, rfl, HA⟩ := hrel
    by_cases hlt : k < l.length
    · obtain ⟨b, off, rfl, hb, hx⟩ := rdI_at hr k hlt
      have hxk := hx k hlt
      by_cases e : ri l k = x
      · have e1 : (x == ri l k) = true := beq_iff_eq.2 e.symm
        have HE := Lib.hid e
        clear e
        go_wp2
        go_ret
        exact ⟨ret_int (idx_yes k hlt HE.out HA.out).symm, rfl⟩
      · have e1 : (x == ri l k) = false := beq_eq_false_iff_ne.2 (Ne.symm e)
        have HE := Lib.hid e
        clear e
        go_wp2
        go_round
        case rel => exact ⟨k + 1, by omega, by go_num, Lib.hid (upto HA.out HE.out)⟩
        case measure => simp [intOf]; omega
    · go_wp2
      go_ret
      exact ⟨ret_int (idx_no (fun j hj => HA.out j (by omega))).symm, rfl⟩
theorem slices_Contains_int (l : List Int) (x : Int) (A : Option Addr) (c : Nat) (w : World) (hr : Kd.C (Kd.int .i64) w A l.length l) (hn : l.length ≤ 2097152) :
    Calls Tryz.prog 145 #[.slice A l.length c, .int .i64 x] w fun e w' => e = .returned (.bool (has l x)) ∧ w = w' := by
  go_enter Tryz.func145, Tryz.ntmps145
  go_wp2_with (go_at_call 155; refine (slices_Index_int _ _ _ _ _ hr hn).mono ?_; rintro e w' ⟨rfl, rfl⟩)
  go_ret
  exact ⟨ret_bool (by simpa using idx_contains l x), rfl⟩
theorem spec_l03Find (l : List Int) (x : Int) (A : Option Addr) (c : Nat) (w : World) (hr : Kd.C (Kd.int .i64) w A l.length l) (hn : l.length ≤ 2097152) :
    Calls Tryz.prog 158 #[.slice A l.length c, .int .i64 x] w fun e w' => e = .returned (.bool (has l x)) ∧ w = w' := by
  go_enter Tryz.func158, Tryz.ntmps158
  go_wp2
  go_loop [5] (fun i => ∃ k : Nat, k ≤ l.length ∧ i = .int .i64 k ∧ Hid (∀ j : Nat, j < k → ¬ ri l j = x)) (fun i => l.length - (intOf i).toNat)
  case atStart => exact ⟨0, Nat.zero_le _, rfl, Lib.hid fun j h => absurd h (Nat.not_lt_zero _)⟩
  case round =>
    obtain ⟨k, hk, rfl, HA⟩ := hrel
    by_cases hlt : k < l.length
    · obtain ⟨b, off, rfl, hb, hx⟩ := rdI_at hr k hlt
      have hxk := hx k hlt
      by_cases e : ri l k = x
      · have e1 : (ri l k == x) = true := beq_iff_eq.2 e
        have HE := Lib.hid e
        clear e
        go_wp2
        go_ret
        exact ⟨ret_bool (contains_yes k hlt HE.out).symm, rfl⟩
      · have e1 : (ri l k == x) = false := beq_eq_false_iff_ne.2 e
        have HE := Lib.hid e
        clear e
        go_wp2
        go_round
        case rel => exact ⟨k + 1, by omega, by go_num, Lib.hid (upto HA.out HE.out)⟩
        case measure => simp [intOf]; omega
    · go_wp2
      go_ret
      exact ⟨ret_bool (contains_no (fun j hj => HA.out j (by omega))).symm, rfl⟩
end Go.Proofs.YteeebfeljjghhaaGreat
/- Plain laws on walks through tables; no program, no memory. -/
set_option linter.unusedVariables false
namespace NoC

def wt (m : Mesh) (t : List Int) (a b : Int) : List Int := if (decide (a ≠ b) && sized m t && isNode m.g a && isNode m.g b) = true then walk m t a b else []

theorem sized_iff {m : Mesh} {t : List Int} : sized m t = true ↔ meshOk m = true ∧ (t.length : Int) = nodeCount m.g * nodeCount m.g := by
  simp [sized]
theorem isNode_iff {g : Grid} {a : Int} : isNode g a = true ↔ 0 ≤ a ∧ a < nodeCount g := by
  simp only [isNode, inside, Bool.and_eq_true, decide_eq_true_eq]
  omega
theorem inside_iff {n lo hi : Int} : inside n lo hi = true ↔ lo ≤ n ∧ n ≤ hi := by simp [inside]
theorem count_le (g : Grid) : 0 ≤ nodeCount g ∧ nodeCount g ≤ 16 := by
  unfold nodeCount
  split
  · rename_i h
    simp only [gridOk, inside, Bool.and_eq_true, decide_eq_true_eq] at h
    obtain ⟨⟨a, b⟩, c, d⟩ := h
    have h1 := Int.mul_le_mul a c (by omega) (by omega)
    have h2 := Int.mul_le_mul b d (by omega) (by omega)
    omega
  · omega
theorem entry_place {g : Grid} {a b : Int} (ha : isNode g a = true) (hb : isNode g b = true) :
    0 ≤ a * nodeCount g ∧ a * nodeCount g ≤ 240 ∧ 0 ≤ a * nodeCount g + b ∧ a * nodeCount g + b < nodeCount g * nodeCount g := by
  rw [isNode_iff] at ha hb
  have hc := count_le g
  have h1 : 0 ≤ a * nodeCount g := Int.mul_nonneg ha.1 hc.1
  have h2 : (a + 1) * nodeCount g ≤ nodeCount g * nodeCount g := Int.mul_le_mul_of_nonneg_right (by omega) hc.1
  have h3 : nodeCount g * nodeCount g ≤ 16 * 16 := Int.mul_le_mul hc.2 hc.2 hc.1 (by omega)
  have h4 : a * nodeCount g ≤ 15 * 16 := Int.mul_le_mul (by omega) hc.2 hc.1 (by omega)
  rw [Int.add_mul, Int.one_mul] at h2
  omega
theorem portAt_eq {m : Mesh} {t : List Int} {a b : Int} (hs : sized m t = true) (ha : isNode m.g a = true) (hb : isNode m.g b = true) :
    portAt m t a b = if inside (entry m t a b) 0 4 then entry m t a b else -1 := by
  simp [portAt, hs, ha, hb]
theorem portAt_range (m : Mesh) (t : List Int) (a b : Int) : -1 ≤ portAt m t a b ∧ portAt m t a b ≤ 4 := by
  unfold portAt
  split
  · rename_i h
    simp only [Bool.and_eq_true, inside_iff] at h
    omega
  · omega
def walkFrom (m : Mesh) (t : List Int) (b : Int) (at_ : Int) (out : List Int) : List Int :=
  if sized m t then walkF m t b ((nodeCount m.g).toNat + 1 - out.length) at_ out else []
theorem walk_bad {m : Mesh} {t : List Int} {b at_ : Int} {out : List Int} (ha : isNode m.g at_ = true) (hb : isNode m.g b = true) (hl : out.length ≤ (nodeCount m.g).toNat)
    (hp : portAt m t at_ b < 0) : walkFrom m t b at_ out = [] := by
  unfold walkFrom
  split
  · rename_i hs
    rw [portAt_eq hs ha hb] at hp
    obtain ⟨k, hk⟩ : ∃ k, (nodeCount m.g).toNat + 1 - out.length = k + 1 := ⟨(nodeCount m.g).toNat - out.length, by omega⟩
    rw [hk]
    unfold walkF
    have hni : ¬ inside (entry m t at_ b) 0 4 = true := by
      intro h
      rw [if_pos h] at hp
      rw [inside_iff] at h
      omega
    rw [inside_iff] at hni
    rw [if_neg (by omega), if_neg (by rw [Bool.and_eq_true, inside_iff]; omega)]
  · rfl
theorem walk_port {m : Mesh} {t : List Int} {b at_ : Int} (ha : isNode m.g at_ = true) (hb : isNode m.g b = true)
    (hp : 0 ≤ portAt m t at_ b) : sized m t = true ∧ entry m t at_ b = portAt m t at_ b := by
  have hs : sized m t = true := by
    cases h : sized m t
    · simp [portAt, h] at hp
    · rfl
  refine ⟨hs, ?_⟩
  rw [portAt_eq hs ha hb] at hp ⊢
  split
  · rfl
  · rename_i h; rw [if_neg h] at hp; omega
theorem walk_here {m : Mesh} {t : List Int} {b at_ : Int} {out : List Int} (ha : isNode m.g at_ = true) (hb : isNode m.g b = true) (hl : out.length ≤ (nodeCount m.g).toNat)
    (hp : portAt m t at_ b = 4) : walkFrom m t b at_ out = if at_ = b then out else [] := by
  obtain ⟨hs, he⟩ := walk_port (m := m) (t := t) ha hb (by omega)
  unfold walkFrom
  rw [if_pos hs]
  obtain ⟨k, hk⟩ : ∃ k, (nodeCount m.g).toNat + 1 - out.length = k + 1 := ⟨(nodeCount m.g).toNat - out.length, by omega⟩
  rw [hk]
  unfold walkF
  rw [if_pos (by omega)]
theorem walk_stop {m : Mesh} {t : List Int} {b at_ : Int} {out : List Int} (ha : isNode m.g at_ = true) (hb : isNode m.g b = true) (hl : out.length ≤ (nodeCount m.g).toNat)
    (h0 : 0 ≤ portAt m t at_ b) (h4 : ¬ portAt m t at_ b = 4) (hc : hasChannel m (4 * at_ + portAt m t at_ b) = false) : walkFrom m t b at_ out = [] := by
  obtain ⟨hs, he⟩ := walk_port (m := m) (t := t) ha hb h0
  unfold walkFrom
  rw [if_pos hs]
  obtain ⟨k, hk⟩ : ∃ k, (nodeCount m.g).toNat + 1 - out.length = k + 1 := ⟨(nodeCount m.g).toNat - out.length, by omega⟩
  rw [hk]
  unfold walkF
  rw [he, if_neg h4]
  have hm := (sized_iff.1 hs).1
  have : live m (4 * at_ + portAt m t at_ b) = false := by simpa [hasChannel, hm] using hc
  rw [this, Bool.and_false]
  rfl
theorem walk_full {m : Mesh} {t : List Int} {b at_ : Int} {out : List Int} (ha : isNode m.g at_ = true) (hb : isNode m.g b = true) (hl : (out.length : Int) = nodeCount m.g)
    (h0 : 0 ≤ portAt m t at_ b) (h4 : ¬ portAt m t at_ b = 4) : walkFrom m t b at_ out = [] := by
  obtain ⟨hs, he⟩ := walk_port (m := m) (t := t) ha hb h0
  unfold walkFrom
  rw [if_pos hs, show (nodeCount m.g).toNat + 1 - out.length = 0 + 1 by omega]
  unfold walkF
  rw [he, if_neg h4]
  split
  · rfl
  · rfl
theorem walk_on {m : Mesh} {t : List Int} {b at_ : Int} {out : List Int} (ha : isNode m.g at_ = true) (hb : isNode m.g b = true) (hl : (out.length : Int) < nodeCount m.g)
    (h0 : 0 ≤ portAt m t at_ b) (h4 : ¬ portAt m t at_ b = 4) (hc : hasChannel m (4 * at_ + portAt m t at_ b) = true) :
    walkFrom m t b at_ out = walkFrom m t b (nextNode m.g at_ (portAt m t at_ b)) (out ++ [4 * at_ + portAt m t at_ b]) := by
  obtain ⟨hs, he⟩ := walk_port (m := m) (t := t) ha hb h0
  have hr := portAt_range m t at_ b
  unfold walkFrom
  rw [if_pos hs, if_pos hs, show (nodeCount m.g).toNat + 1 - out.length = ((nodeCount m.g).toNat + 1 - (out ++ [4 * at_ + portAt m t at_ b]).length) + 1 by simp; omega]
  rw [walkF]
  rw [he, if_neg h4]
  have hm := (sized_iff.1 hs).1
  have : live m (4 * at_ + portAt m t at_ b) = true := by simpa [hasChannel, hm] using hc
  rw [this, Bool.and_true, if_pos (inside_iff.2 (by omega))]
theorem wt_start {m : Mesh} {t : List Int} {a b : Int} (hab : ¬ a = b) (ha : isNode m.g a = true) (hb : isNode m.g b = true) : wt m t a b = walkFrom m t b a [] := by
  simp [wt, walkFrom, walk, hab, ha, hb]
theorem chan_div {a p : Int} (h0 : 0 ≤ p) (h3 : p ≤ 3) : (4 * a + p) / 4 = a ∧ (4 * a + p) % 4 = p := by omega
theorem next_node {m : Mesh} {a p : Int} (h0 : 0 ≤ p) (h3 : p ≤ 3) (hc : hasChannel m (4 * a + p) = true) : isNode m.g (nextNode m.g a p) = true := by
  simp only [hasChannel, live, leads, Bool.and_eq_true, decide_eq_true_eq] at hc
  obtain ⟨_, ⟨_, h⟩, _⟩ := hc
  rw [(chan_div h0 h3).1, (chan_div h0 h3).2] at h
  have hcl := count_le m.g
  revert h
  unfold nextNode
  have hn : ∀ x y, 0 ≤ nodeAt m.g x y → isNode m.g (nodeAt m.g x y) = true := by
    intro x y h
    unfold nodeAt at h ⊢
    split
    · rename_i hi
      rw [if_pos hi] at h
      simp only [Bool.and_eq_true, inside_iff] at hi
      obtain ⟨⟨hg, hx⟩, hy⟩ := hi
      rw [isNode_iff]
      simp only [nodeCount, hg, if_true]
      have : (y + 1) * m.g.w ≤ m.g.h * m.g.w := Int.mul_le_mul_of_nonneg_right (by omega) (by omega)
      rw [Int.add_mul, Int.one_mul, Int.mul_comm m.g.h] at this
      omega
    · rename_i hi; rw [if_neg hi] at h; omega
  split
  · split
    · exact hn _ _
    · split
      · exact hn _ _
      · split
        · exact hn _ _
        · split
          · exact hn _ _
          · split
            · intro _; assumption
            · intro h; omega
  · intro h; omega

theorem walk_over {m : Mesh} {t : List Int} {b at_ : Int} {out : List Int} (hl : (nodeCount m.g).toNat < out.length) : walkFrom m t b at_ out = [] := by
  unfold walkFrom
  rw [show (nodeCount m.g).toNat + 1 - out.length = 0 by omega]
  split <;> rfl
theorem walkE {m : Mesh} {t : List Int} {b at_ : Int} {out : List Int} (hs : sized m t = true) (hl : out.length ≤ (nodeCount m.g).toNat) :
    walkFrom m t b at_ out = if entry m t at_ b = 4 then (if at_ = b then out else [])
      else if inside (entry m t at_ b) 0 3 && live m (4 * at_ + entry m t at_ b) then walkFrom m t b (nextNode m.g at_ (entry m t at_ b)) (out ++ [4 * at_ + entry m t at_ b]) else [] := by
  unfold walkFrom
  rw [if_pos hs, if_pos hs]
  obtain ⟨k, hk⟩ : ∃ k, (nodeCount m.g).toNat + 1 - out.length = k + 1 := ⟨(nodeCount m.g).toNat - out.length, by omega⟩
  rw [hk, walkF, show (nodeCount m.g).toNat + 1 - (out ++ [4 * at_ + entry m t at_ b]).length = k by simp; omega]
theorem next_live {m : Mesh} {a p : Int} (h0 : 0 ≤ p) (h3 : p ≤ 3) (hm : meshOk m = true) (hc : live m (4 * a + p) = true) : isNode m.g (nextNode m.g a p) = true :=
  next_node h0 h3 (by simp [hasChannel, hm, hc])

def nN (g : Grid) : Nat := (nodeCount g).toNat
def diagOk (m : Mesh) (t : List Int) : Bool := allI (nN m.g) fun a => entry m t a a == 4
def pairOk (m : Mesh) (t : List Int) (a b : Nat) : Bool := decide (a = b) || decide (0 < (wt m t a b).length)
def pairsOk (m : Mesh) (t : List Int) : Bool := allI (nN m.g) fun a => allI (nN m.g) (pairOk m t a)
def cellOk (m : Mesh) (t : List Int) (a b : Nat) : Bool := if a = b then entry m t a a == 4 else decide (0 < (walkFrom m t b a []).length)
theorem isNode_nat {g : Grid} {a : Nat} (h : a < nN g) : isNode g (a : Int) = true := by
  unfold nN at h
  exact isNode_iff.2 ⟨by omega, by omega⟩
theorem tableOk_cells (m : Mesh) (t : List Int) : tableOk m t = (sized m t && allI (nN m.g) fun a => allI (nN m.g) (cellOk m t a)) := by
  unfold tableOk
  cases hs : sized m t
  · rfl
  · simp only [Bool.true_and]
    rw [Bool.eq_iff_iff, allI_iff, allI_iff]
    refine forall_congr' fun a => forall_congr' fun ha => ?_
    rw [allI_iff, allI_iff]
    refine forall_congr' fun b => forall_congr' fun hb => ?_
    unfold cellOk
    by_cases e : a = b
    · subst e; simp
    · rw [if_neg e, if_neg e]
      simp only [walkFrom, walk, hs, if_true, List.length_nil, Nat.sub_zero]
      exact ⟨fun h => decide_eq_true (of_decide_eq_true h), fun h => decide_eq_true (of_decide_eq_true h)⟩
theorem tableOk_parts (m : Mesh) (t : List Int) : tableOk m t = (sized m t && (diagOk m t && pairsOk m t)) := by
  rw [tableOk_cells]
  cases hs : sized m t
  · rfl
  · simp only [Bool.true_and]
    rw [Bool.eq_iff_iff, Bool.and_eq_true]
    unfold diagOk pairsOk
    rw [allI_iff, allI_iff, allI_iff]
    have key : ∀ a b : Nat, a < nN m.g → b < nN m.g → (cellOk m t a b = true ↔ ((a = b → (entry m t a a == 4) = true) ∧ pairOk m t a b = true)) := by
      intro a b ha hb
      unfold cellOk pairOk
      by_cases e : a = b
      · subst e; simp
      · have : ¬ (a : Int) = (b : Int) := by omega
        rw [if_neg e]
        simp [e, wt_start this (isNode_nat ha) (isNode_nat hb)]
    constructor
    · intro h
      refine ⟨fun a ha => ((key a a ha ha).1 (allI_iff.1 (h a ha) a ha)).1 rfl, fun a ha => allI_iff.2 fun b hb => ((key a b ha hb).1 (allI_iff.1 (h a ha) b hb)).2⟩
    · rintro ⟨h1, h2⟩ a ha
      exact allI_iff.2 fun b hb => (key a b ha hb).2 ⟨fun _ => h1 a ha, allI_iff.1 (h2 a ha) b hb⟩
end NoC
