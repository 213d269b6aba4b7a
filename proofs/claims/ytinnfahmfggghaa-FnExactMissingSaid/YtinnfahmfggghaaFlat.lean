/- Rows of plain records (packets, waits): what is read of them and made; no program but its types' sizes. -/
import Derived.Test.YtinnfahmfggghaaBox
set_option linter.unusedVariables false
set_option linter.unusedSimpArgs false
namespace Go.Proofs.Ytinnfahmfggghaa
open Go.RowKit Go.Proofs.YtinnfahmfggghaaW.PrintWords

/-- A record of plain cells. -/
def Kd.flat {α : Type} (n : Nat) (enc : α → List Value) (hl : ∀ x, (enc x).length = n) (h1 : ∀ x, ∀ u ∈ enc x, u.oneCell' = true) : Kd α where
  sz := n
  E := []
  K := fun _ x cs => cs = enc x
  M := fun _ _ _ x cs => cs = enc x
  K_len := fun h => by rw [h]; exact hl _
  K_one := fun h u hu => by rw [h] at hu; exact h1 _ u hu
  K_below := fun _ h => h
  K_of_M := fun h => h
  M_mono := fun _ h => h
  M_bound := fun h => h
  M_move := fun _ h => h
  M_lower := fun _ h => h
section
variable {α : Type} {n : Nat} {enc : α → List Value} {hl : ∀ x, (enc x).length = n} {h1 : ∀ x, ∀ u ∈ enc x, u.oneCell' = true}
/-- A row of records that is read: where it lies, if it has an element. -/
theorem rdF_at (z : α) (hn : 0 < n) {w : World} {A : Option Addr} {l : List α} (h : (Kd.flat n enc hl h1).C w A l.length l) (k : Nat) (hk : k < l.length) :
    ∃ b off, A = some ⟨b, off, none⟩ ∧ b < w.heap.size ∧ ∀ j, j < l.length → ∀ i u, (enc (l.getD j z))[i]? = some u → w.cell? ⟨b, off + (j * n + i), none⟩ = some u := by
  have key : ∀ j, j < l.length → ∃ ad, A = some ad ∧ ∀ i u, (enc (l.getD j z))[i]? = some u → w.cell? (ad.add (j * n + i)) = some u := by
    intro j hj
    obtain ⟨ad, cs, e, _, hK, hc⟩ := Kd.C_get h z (j : Int) (by omega) (by omega)
    have hK' : cs = enc (l.getD (j : Int).toNat z) := hK
    subst hK'
    refine ⟨ad, e, fun i u hu => ?_⟩
    have := hc i u hu
    rwa [Int.toNat_natCast] at this
  obtain ⟨ad, rfl, h0⟩ := key 0 (by omega)
  have hlt : 0 < (enc (l.getD 0 z)).length := by rw [hl]; exact hn
  have h00 := h0 0 _ (List.getElem?_eq_getElem hlt)
  rw [Nat.zero_mul] at h00
  have hs : ad.spot = none := by
    cases hsp : ad.spot with
    | none => rfl
    | some s =>
      have : ad.add (0 + 0) = ad := by simp [Addr.add]
      rw [this] at h00
      unfold World.cell? at h00
      split at h00
      · simp [hsp] at h00
      · simp at h00
  obtain ⟨b, off, sp⟩ := ad
  simp only at hs
  subst hs
  refine ⟨b, off, rfl, World.block_lt_of_cell? w _ h00, fun j hj i u hu => ?_⟩
  obtain ⟨ad, e, h2⟩ := key j hj
  obtain rfl := Option.some.inj e
  have h3 := h2 i u hu
  rwa [show (⟨b, off, none⟩ : Addr).add (j * n + i) = ⟨b, off + (j * n + i), none⟩ by unfold Addr.add; split <;> simp_all] at h3
theorem Kd.R_rowF {w : World} {base e : Nat} {A : Option Addr} {m c : Nat} {xs : List α} (h : Kd.R (Kd.flat n enc hl h1) e w base (fun _ => True) (.slice A m c) xs) : m = xs.length ∧ m ≤ c ∧ Kd.C (Kd.flat n enc hl h1) w A m xs := by
  obtain ⟨A', c', he, h1, h2⟩ := Kd.R_reads h
  injection he with e1 e2 e3
  subst e1 e2 e3
  exact ⟨rfl, h1, h2⟩
/-- The cells of element k of a row of one's own. -/
theorem rowF_cell (z : α) {w : World} {base e g m c : Nat} {xs : List α} (h : Kd.R (Kd.flat n enc hl h1) e w base (fun _ => True) (.slice (some ⟨g, 0, none⟩) m c) xs) (k : Nat) (hk : k < m) :
    (∀ i u, (enc (xs.getD k z))[i]? = some u → w.cell? ⟨g, k * n + i, none⟩ = some u) ∧ ∀ i, w.frozen? ⟨g, k * n + i, none⟩ = false := by
  obtain ⟨cs, hcl, hM, hcc, hf⟩ := Kd.R_elem h z (k : Int) (by omega) (by omega)
  have hM' : cs = enc (xs.getD (k : Int).toNat z) := hM
  subst hM'
  rw [Int.toNat_natCast] at hcc hf
  exact ⟨hcc, hf⟩
end
def pkCells (p : NoC.Packet) : List Value := [.int .i64 p.id, .int .i64 p.src, .int .i64 p.dst, .int .i64 p.cls, .int .i64 p.len]
def kP : Kd NoC.Packet := Kd.flat 5 pkCells (fun _ => rfl) (fun x u hu => by
  simp only [pkCells, List.mem_cons, List.not_mem_nil, or_false] at hu
  rcases hu with rfl | rfl | rfl | rfl | rfl <;> rfl)
/-- The five fields of packet k. -/
theorem rdP_at {w : World} {A : Option Addr} {l : List NoC.Packet} (h : kP.C w A l.length l) (k : Nat) (hk : k < l.length) :
    ∃ b off, A = some ⟨b, off, none⟩ ∧ b < w.heap.size ∧ w.cell? ⟨b, off + k * 5, none⟩ = some (.int .i64 (NoC.rp l k).id) ∧ w.cell? ⟨b, off + k * 5 + 1, none⟩ = some (.int .i64 (NoC.rp l k).src) ∧ w.cell? ⟨b, off + k * 5 + 2, none⟩ = some (.int .i64 (NoC.rp l k).dst) ∧ w.cell? ⟨b, off + k * 5 + 3, none⟩ = some (.int .i64 (NoC.rp l k).cls) ∧ w.cell? ⟨b, off + k * 5 + 4, none⟩ = some (.int .i64 (NoC.rp l k).len) := by
  obtain ⟨b, off, rfl, hb, hx⟩ := rdF_at (n := 5) NoC.zp (by omega) h k hk
  exact ⟨b, off, rfl, hb, hx k hk 0 _ rfl, hx k hk 1 _ rfl, hx k hk 2 _ rfl, hx k hk 3 _ rfl, hx k hk 4 _ rfl⟩
end Go.Proofs.Ytinnfahmfggghaa
