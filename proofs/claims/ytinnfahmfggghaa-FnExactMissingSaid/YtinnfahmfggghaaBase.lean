/- Words that all walks of this seat share; no program. -/
import Derived.Test.YtinnfahmfggghaaM
import Derived.Test.YtinnfahmfggghaaWWords
import Derived.WalkKit
import Derived.WalkSpells
import Derived.Lib.Hide
import Derived.Deep.QuietTactic
import Derived.BigQuiet
import Derived.Outline
import Derived.Deep.LoopGhost
import Derived.Deep.RegionHeld3
set_option linter.unusedVariables false
set_option linter.unusedSimpArgs false
namespace Go.Proofs.Ytinnfahmfggghaa
open Go.RowKit Go.Proofs.YtinnfahmfggghaaW.PrintWords

theorem bw_refl (w : World) : Below w.heap.size w w := Below.refl _ _
theorem bw_alloc {w W : World} (o : Obj) (h : Below w.heap.size w W) : Below w.heap.size w (W.alloc o) := h.alloc h.size o
theorem bw_drew {w W : World} (h : Below w.heap.size w W) : Below w.heap.size w W.drew := below_drew h
theorem bw_drewN {w W : World} (n : Nat) (h : Below w.heap.size w W) : Below w.heap.size w (W.drewN n) := pw_below_drewN h n
theorem bw_then {w W W' : World} (h : Below w.heap.size w W) (k : Below W.heap.size W W') : Below w.heap.size w W' := below_then h h.size k
theorem bw_size {w W : World} (h : Below w.heap.size w W) : w.heap.size ≤ W.heap.size := h.size
theorem sz_drewN (w : World) (n : Nat) : (w.drewN n).heap.size = w.heap.size := rfl
theorem bcell {w W : World} (hb : Below w.heap.size w W) : (∀ b o, b < w.heap.size → W.cell? ⟨b, o, none⟩ = w.cell? ⟨b, o, none⟩) ∧ (∀ b o, b < w.heap.size → W.frozen? ⟨b, o, none⟩ = w.frozen? ⟨b, o, none⟩) ∧ w.heap.size ≤ W.heap.size :=
  ⟨fun b o h => hb.cell (p := ⟨b, o, none⟩) h, fun b o h => hb.frozen (p := ⟨b, o, none⟩) h, hb.size⟩
/-- A slice of ints that is read: where it lies, if it has an element. -/
theorem rdI_at {w : World} {A : Option Addr} {l : List Int} (h : Kd.C (Kd.int .i64) w A l.length l) (k : Nat) (hk : k < l.length) :
    ∃ b off, A = some ⟨b, off, none⟩ ∧ b < w.heap.size ∧ ∀ j, j < l.length → w.cell? ⟨b, off + j, none⟩ = some (.int .i64 (NoC.ri l j)) := by
  have key : ∀ j, j < l.length → ∃ ad, A = some ad ∧ w.cell? (ad.add j) = some (.int .i64 (NoC.ri l j)) := by
    intro j hj
    obtain ⟨ad, cs, e, _, hK, hc⟩ := Kd.C_get h 0 (j : Int) (by omega) (by omega)
    have hK' : cs = [.int .i64 (l.getD (j : Int).toNat 0)] := hK
    subst hK'
    have := hc 0 _ rfl
    refine ⟨ad, e, ?_⟩
    have e2 : (j : Int).toNat * (Kd.int .i64).sz + 0 = j := by show (j : Int).toNat * 1 + 0 = j; omega
    rw [e2] at this
    exact this
  obtain ⟨ad, rfl, h0⟩ := key 0 (by omega)
  have hs : ad.spot = none := by
    cases hsp : ad.spot with
    | none => rfl
    | some s =>
      have : ad.add 0 = ad := by simp [Addr.add]
      rw [this] at h0
      unfold World.cell? at h0
      split at h0
      · simp [hsp] at h0
      · simp at h0
  obtain ⟨b, off, sp⟩ := ad
  simp only at hs
  subst hs
  refine ⟨b, off, rfl, World.block_lt_of_cell? w _ h0, fun j hj => ?_⟩
  obtain ⟨ad, e, h1⟩ := key j hj
  obtain rfl := Option.some.inj e
  rwa [show (⟨b, off, none⟩ : Addr).add j = ⟨b, off + j, none⟩ by unfold Addr.add; split <;> simp_all] at h1
/-- What holds below k and at k. -/
theorem upto {k : Nat} {p : Nat → Prop} (h : ∀ j, j < k → p j) (hk : p k) : ∀ j, j < k + 1 → p j := by
  intro j hj
  by_cases e : j = k
  · subst e; exact hk
  · exact h j (by omega)
theorem far_of {W w : World} (h : Below W.heap.size W w) : Below W.heap.size W w ∧ ∀ b o, b < W.heap.size → w.cell? ⟨b, o, none⟩ = W.cell? ⟨b, o, none⟩ := ⟨h, (bcell h).1⟩
/-- A world that lies above W: as W was, and more. -/
structure Far (W : World) where
  w : World
  h : Below W.heap.size W w
instance (W : World) : Nonempty (Far W) := ⟨⟨W, Below.refl _ _⟩⟩
theorem far_cell (W : World) (n : Far W) (b o : Nat) (hb : b < W.heap.size) : n.w.cell? ⟨b, o, none⟩ = W.cell? ⟨b, o, none⟩ := (bcell n.h).1 b o hb
theorem far_frozen (W : World) (n : Far W) (b o : Nat) (hb : b < W.heap.size) : n.w.frozen? ⟨b, o, none⟩ = W.frozen? ⟨b, o, none⟩ := (bcell n.h).2.1 b o hb
/-- A region that draws its order, reads, and calls what reads and makes: one walk in the text's order. -/
theorem wp_region_far {P : Program} {id : Nat} {Q : Exit → Act → World → Prop} {a : Act} {w : World} {l : List Oper} (W : World) (hm : P.follows .mixedOrders = true) (hB : Region.lexB .any l.toArray = true) (hC : Below W.heap.size W w)
    (h : wpQuiet P l.toArray (fun w' => ∃ n : Far W, w' = n.w) (fun a' => ∀ w', Below W.heap.size W w' → Q .normal a' w') l a) : (Code.region id l.toArray true).wp P Q a w := by
  refine wp_region_quiet (C := fun w' => ∃ n : Far W, w' = n.w) hm hB ⟨⟨_, below_drew hC⟩, rfl⟩ ?_
  have mono : ∀ (l' : List Oper) (a : Act), wpQuiet P l.toArray (fun w' => ∃ n : Far W, w' = n.w) (fun a' => ∀ w', Below W.heap.size W w' → Q .normal a' w') l' a → wpQuiet P l.toArray (fun w' => ∃ n : Far W, w' = n.w) (fun a' => ∀ w', (∃ n : Far W, w' = n.w) → Q .normal a' w') l' a := by
    intro l'
    induction l' with
    | nil =>
      intro a h w' hw'
      obtain ⟨n, rfl⟩ := hw'
      exact h _ n.h
    | cons o rest ih =>
      intro a h
      unfold wpQuiet at h ⊢
      split
      · rename_i hw
        rw [if_pos hw] at h
        exact Oper.quiet_mono ih h
      · rename_i hw
        rw [if_neg hw] at h
        exact ih _ h
  exact mono _ _ (by simpa using h)
theorem far_call {P : Program} {f : FuncId} {args : Array Value} {W : World} {n : Far W} {v : Value} (h : Calls P f args n.w fun e w' => e = .returned v ∧ Below n.w.heap.size n.w w') :
    Calls P f args n.w fun e w'' => e = .returned v ∧ ∃ m : Far W, w'' = m.w :=
  h.mono fun _ w' ⟨he, hb⟩ => ⟨he, ⟨w', bw_then n.h hb⟩, rfl⟩
theorem far_same {P : Program} {f : FuncId} {args : Array Value} {W : World} {n : Far W} {v : Value} (h : Calls P f args n.w fun e w' => e = .returned v ∧ n.w = w') :
    Calls P f args n.w fun e w'' => e = .returned v ∧ ∃ m : Far W, w'' = m.w :=
  h.mono fun _ w' ⟨he, hb⟩ => ⟨he, n, hb.symm⟩
/-- A contract's answer, said otherwise. -/
theorem Calls.says {P : Program} {f : FuncId} {args : Array Value} {w : World} {u v : Value} {R : World → Prop} (h : Calls P f args w fun e w' => e = .returned u ∧ R w') (hv : u = v) : Calls P f args w fun e w' => e = .returned v ∧ R w' := hv ▸ h
theorem more {b n : Nat} (h : b < n) : b < n + 1 ∧ b < n + 1 + 1 ∧ b < n + 2 ∧ b < n + 1 + 1 + 1 ∧ b < n + 3 ∧ b < n + 4 := by omega
theorem wrap_sum (a b : Int) (h0 : 0 ≤ a) (h1 : a ≤ 1000000) (h2 : 0 ≤ b) (h3 : b ≤ 1000000) : IntKind.i64.wrap (IntKind.i64.wrap (a + b) + 1) = a + b + 1 := by
  rw [IntWalk.i64_in (a + b) (by omega), IntWalk.i64_in _ (by omega)]
theorem bw_set {w W : World} {g k : Nat} (v : Value) (h : Below w.heap.size w W) (hg : w.heap.size ≤ g) : Below w.heap.size w (W.setCell ⟨g, k, none⟩ v) := below_set h hg
theorem lts1 {a b : Nat} (h : a + 1 ≤ b) : a < b := h
theorem lts2 {a b : Nat} (h : a + 1 + 1 ≤ b) : a < b ∧ a + 1 < b := by omega
theorem lts3 {a b : Nat} (h : a + 1 + 1 + 1 ≤ b) : a < b ∧ a + 1 < b ∧ a + 1 + 1 < b := by omega
theorem lts4 {a b : Nat} (h : a + 1 + 1 + 1 + 1 ≤ b) : a < b ∧ a + 1 < b ∧ a + 1 + 1 < b ∧ a + 1 + 1 + 1 < b := by omega
theorem ret_int {k : IntKind} {a b : Int} (h : a = b) : Ending.returned (.int k a) = .returned (.int k b) := by rw [h]
theorem ret_bool {a b : Bool} (h : a = b) : Ending.returned (.bool a) = .returned (.bool b) := by rw [h]
end Go.Proofs.Ytinnfahmfggghaa
