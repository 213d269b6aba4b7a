/- Networks as values: what is read of flits, of rows of rows of flits, of a network's eleven cells. No program. -/
import Derived.Test.YtinnfahmfggghaaFlat
set_option linter.unusedVariables false
set_option linter.unusedSimpArgs false
namespace Go.Proofs.Ytinnfahmfggghaa
open Go.RowKit Go.Proofs.YtinnfahmfggghaaW.PrintWords
open NoC

def fCells (x : Flit) : List Value := [.int .i64 x.pk, .int .i64 x.dst, .int .i64 x.cls, .bool x.head, .bool x.tail]
def kF : Kd Flit := Kd.flat 5 fCells (fun _ => rfl) (fun x u hu => by
  simp only [fCells, List.mem_cons, List.not_mem_nil, or_false] at hu
  rcases hu with rfl | rfl | rfl | rfl | rfl <;> rfl)
/-- The five fields of flit k. -/
theorem rdFl_at {w : World} {A : Option Addr} {l : List Flit} (h : kF.C w A l.length l) (k : Nat) (hk : k < l.length) :
    ∃ b off, A = some ⟨b, off, none⟩ ∧ b < w.heap.size ∧ w.cell? ⟨b, off + k * 5, none⟩ = some (.int .i64 (rf l k).pk) ∧ w.cell? ⟨b, off + k * 5 + 1, none⟩ = some (.int .i64 (rf l k).dst) ∧ w.cell? ⟨b, off + k * 5 + 2, none⟩ = some (.int .i64 (rf l k).cls) ∧ w.cell? ⟨b, off + k * 5 + 3, none⟩ = some (.bool (rf l k).head) ∧ w.cell? ⟨b, off + k * 5 + 4, none⟩ = some (.bool (rf l k).tail) := by
  obtain ⟨b, off, rfl, hb, hx⟩ := rdF_at (n := 5) z0 (by omega) h k hk
  exact ⟨b, off, rfl, hb, hx k hk 0 _ rfl, hx k hk 1 _ rfl, hx k hk 2 _ rfl, hx k hk 3 _ rfl, hx k hk 4 _ rfl⟩
/-- Rows of flits; e: the flits' type. -/
def kB (e : Nat) : Kd (List Flit) := Kd.slice e kF
/-- Row k of a row of rows of flits. -/
theorem rdB_at {e : Nat} {w : World} {A : Option Addr} {l : List (List Flit)} (h : (kB e).C w A l.length l) (k : Nat) (hk : k < l.length) :
    ∃ b off, A = some ⟨b, off, none⟩ ∧ b < w.heap.size ∧ ∃ Ai ci, w.cell? ⟨b, off + k, none⟩ = some (.slice Ai (rl l k).length ci) ∧ (rl l k).length ≤ ci ∧ kF.C w Ai (rl l k).length (rl l k) := by
  have key : ∀ j, j < l.length → ∃ ad, A = some ad ∧ ∃ Ai ci, w.cell? (ad.add j) = some (.slice Ai (rl l j).length ci) ∧ (rl l j).length ≤ ci ∧ kF.C w Ai (rl l j).length (rl l j) := by
    intro j hj
    obtain ⟨ad, cs, e1, _, hK, hc⟩ := Kd.C_get h [] (j : Int) (by omega) (by omega)
    obtain ⟨Ai, ci, rfl, hle, hC⟩ := hK
    have h1 := hc 0 _ rfl
    rw [Int.toNat_natCast] at h1 hle hC
    refine ⟨ad, e1, Ai, ci, ?_, hle, hC⟩
    have e2 : j * (kB e).sz + 0 = j := by show j * 1 + 0 = j; omega
    rw [e2] at h1
    exact h1
  obtain ⟨ad, rfl, A0, c0, h0, _, _⟩ := key 0 (by omega)
  have hs : ad.spot = none := by
    cases hsp : ad.spot with
    | none => rfl
    | some s =>
      have : ad.add 0 = ad := by simp [Addr.add]
      rw [this] at h0
      unfold World.cell? at h0
      split at h0
      · simp [hsp] at h0
      · simp at h0
  obtain ⟨b, off, sp⟩ := ad
  simp only at hs
  subst hs
  refine ⟨b, off, rfl, World.block_lt_of_cell? w _ h0, ?_⟩
  obtain ⟨ad, e1, Ai, ci, h1, h2, h3⟩ := key k hk
  obtain rfl := Option.some.inj e1
  refine ⟨Ai, ci, ?_, h2, h3⟩
  rwa [show (⟨b, off, none⟩ : Addr).add k = ⟨b, off + k, none⟩ by unfold Addr.add; split <;> simp_all] at h1
/-- Where a network's eight rows lie, and how far they reach. -/
structure NA where
  a1 : Option Addr
  a2 : Option Addr
  a3 : Option Addr
  a4 : Option Addr
  a5 : Option Addr
  a6 : Option Addr
  a7 : Option Addr
  a8 : Option Addr
  c1 : Nat
  c2 : Nat
  c3 : Nat
  c4 : Nat
  c5 : Nat
  c6 : Nat
  c7 : Nat
  c8 : Nat
/-- A network's eleven cells. -/
def netCells (n : Net) (q : NA) : Array Value :=
  #[.int .i64 n.mesh.g.w, .int .i64 n.mesh.g.h, .slice q.a1 n.mesh.br.length q.c1, .slice q.a2 n.pa.length q.c2, .slice q.a3 n.pb.length q.c3, .slice q.a4 n.bufs.length q.c4, .slice q.a5 n.owners.length q.c5, .slice q.a6 n.turns.length q.c6, .slice q.a7 n.srcs.length q.c7, .slice q.a8 n.arrs.length q.c8, .int .i64 n.time]
/-- A network's rows, read. e: the flits' type. -/
structure NetR (e : Nat) (w : World) (n : Net) (q : NA) : Prop where
  br : Kd.C (Kd.int .i64) w q.a1 n.mesh.br.length n.mesh.br
  pa : Kd.C (Kd.int .i64) w q.a2 n.pa.length n.pa
  pb : Kd.C (Kd.int .i64) w q.a3 n.pb.length n.pb
  bufs : (kB e).C w q.a4 n.bufs.length n.bufs
  owners : Kd.C (Kd.int .i64) w q.a5 n.owners.length n.owners
  turns : Kd.C (Kd.int .i64) w q.a6 n.turns.length n.turns
  srcs : (kB e).C w q.a7 n.srcs.length n.srcs
  arrs : (kB e).C w q.a8 n.arrs.length n.arrs
  h1 : n.mesh.br.length ≤ 1048576
  h2 : n.pa.length ≤ 1048576
  h3 : n.pb.length ≤ 1048576
  h4 : n.bufs.length ≤ 1048576
  h5 : n.owners.length ≤ 1048576
  h6 : n.turns.length ≤ 1048576
  h7 : n.srcs.length ≤ 1048576
  h8 : n.arrs.length ≤ 1048576
  h9 : ∀ l ∈ n.bufs, l.length ≤ 1048576
  h10 : ∀ l ∈ n.srcs, l.length ≤ 1048576
  h11 : ∀ l ∈ n.arrs, l.length ≤ 1048576
theorem NetR.below {e : Nat} {w w1 : World} {n : Net} {q : NA} (h : NetR e w n q) (hb : Below w.heap.size w w1) : NetR e w1 n q :=
  ⟨Kd.C_below h.br hb, Kd.C_below h.pa hb, Kd.C_below h.pb hb, Kd.C_below h.bufs hb, Kd.C_below h.owners hb, Kd.C_below h.turns hb, Kd.C_below h.srcs hb, Kd.C_below h.arrs hb, h.h1, h.h2, h.h3, h.h4, h.h5, h.h6, h.h7, h.h8, h.h9, h.h10, h.h11⟩
end Go.Proofs.Ytinnfahmfggghaa
