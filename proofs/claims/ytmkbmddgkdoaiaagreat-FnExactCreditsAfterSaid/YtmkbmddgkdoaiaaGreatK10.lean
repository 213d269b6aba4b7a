/- Lemmas for laws of this seat, for all inputs: CrS Open OpenP NetS. -/
import Derived.Test.YtmkbmddgkdoaiaaGreatK9
import Derived.Test.YtmkbmddgkdoaiaaGreatK7
import Derived.Test.YtmkbmddgkdoaiaaGreatK3
import Derived.Test.YtmkbmddgkdoaiaaGreatK1
import Derived.ProofKit
import Derived.OpenShut
import Derived.SizedLaws
import Derived.WideShapes
import Derived.ChangeSame
import Derived.Test.YtmkbmddgkdoaiaaGreatK4
set_option linter.unusedVariables false
set_option linter.unusedSimpArgs false
namespace Go.Proofs.YtmkbmddgkdoaiaaGreat
open Go.RowKit Go.Proofs.YtmkbmddgkdoaiaaGreatW.PrintWords
open NoC
section
variable {ops : Array Oper} {rest : List Oper} {o : Oper} {a : Act} {Q : Exit → Act → World → Prop}
theorem app_intN {B : Nat} {W : World} (hgd : o.guard = none) (s x : Operand)
    (ho : o.op = .call { callee := .builtin .append, args := #[s, x], argTypes := #[24, 24] })
    (v : Value) (xs : List Int) (y : Int) (hs : a.eval s = v) (hx : a.eval x = .slice (some ⟨W.heap.size, 0, none⟩) 1 1)
    (HO : Kd.R (Kd.int .i64) 3 W B (fun _ => True) v xs) (hB : B ≤ W.heap.size) (hl : xs.length ≤ 100000000)
    (h : ∀ v1 w1, Kd.R (Kd.int .i64) 3 w1 B (fun _ => True) v1 (xs ++ [y]) → W.grownBy w1 v.ownBlock → Anew W v1 v → wpList Tryz.prog ops Q rest (a.put o.dst v1) w1) :
    wpList Tryz.prog ops Q (o :: rest) a (W.alloc (.cells #[.int .i64 y] 3)) :=
  Kd.R_append (P := Tryz.prog) (Kd.int .i64) (w0 := W) B hgd s x 24 3 (.int .i64 0) 8 ho Tryz.underlying24 info_int rfl (by decide) (by omega) v xs y [.int .i64 y] (fun _ => True) (fun _ => False) hs hx rfl (fun _ h => h.elim) (fun _ _ => trivial) HO (Below.refl _ _) hB (by omega) (fun v1 w1 h1 _ h3 h4 => h v1 w1 h1 h3 (.inr h4))
end
def csTo (n : Net) (k : Nat) : List Int := ((allGrants n).take k).foldl (specC n) (creditsN n)
theorem csTo_succ (n : Net) {k : Nat} (h : k < (allGrants n).length) : csTo n (k + 1) = specC n (csTo n k) (rg (allGrants n) k) := by
  unfold csTo
  rw [List.take_succ_eq_append_getElem h, List.foldl_append, rg_get _ k h]
  rfl
theorem csTo_all {n : Net} (ok : netOk n = true) : csTo n (allGrants n).length = creditsAfterN n := by unfold csTo; rw [List.take_length]; exact creditsAfter_spec ok
theorem foldS_len (n : Net) : ∀ (gs : List Grant) (l : List Int), (gs.foldl (specC n) l).length = l.length := by
  intro gs
  induction gs with
  | nil => intro l; rfl
  | cons g gs ih => intro l; show (gs.foldl (specC n) (specC n l g)).length = _; rw [ih, specC_len]
theorem csTo_len (n : Net) (k : Nat) : ((csTo n k).length : Int) = 8 * nodeCount n.mesh.g := by
  unfold csTo
  rw [foldS_len]
  unfold creditsN
  rw [creditsTo_len]
  have := count_nat n.mesh.g
  omega
theorem set_bd {b : Int} {l : List Int} (h : Bd b l) (h0 : 0 ≤ b) (k : Nat) (x : Int) (hx : -(b + 1) ≤ x ∧ x ≤ b + 1) : Bd (b + 1) (l.set k x) := by
  intro j
  have h1 := h j
  rw [ri_any]
  split <;> omega
theorem specC_bd {b : Int} {n : Net} {l : List Int} {g : Grant} (h : Bd b l) (h0 : 0 ≤ b) : Bd (b + 2) (specC n l g) := by
  have h1 : Bd (b + 1) (if g.port = 4 then l else l.set (decK g).toNat (ri l (decK g) - 1)) := by
    split
    · intro j; have := h j; omega
    · exact set_bd h h0 _ _ (by have := h (decK g); omega)
  unfold specC incC
  split
  · have := chgC_bd h1 (by omega) (incK n g) 1 (by omega) (by omega)
    intro j
    have := this j
    omega
  · intro j
    have := h1 j
    omega
theorem csTo_bd {n : Net} (ok : netOk n = true) : ∀ k : Nat, k ≤ (allGrants n).length → Bd (3 + 2 * k) (csTo n k) := by
  intro k
  induction k with
  | zero =>
    intro _ j
    have := credits_bd ok j
    have e : csTo n 0 = creditsN n := rfl
    rw [e]
    omega
  | succ k ih =>
    intro hk
    rw [csTo_succ n (by omega)]
    intro j
    have := specC_bd (n := n) (g := rg (allGrants n) k) (ih (by omega)) (by omega) j
    push_cast
    omega
theorem CreditsAfter_len (n : Net) : (creditsAfterV n).length ≤ 2097152 := by
  unfold creditsAfterV
  split
  · have h := csTo_len n 0
    have e : (creditsAfterN n).length = (csTo n 0).length := by
      unfold creditsAfterN
      rw [foldC_len]
      rfl
    have := count_le n.mesh.g
    omega
  · simp
def creditTableV (n : Net) : List Int := if netOk n = true then creditsN n else []
set_option maxHeartbeats 4000000 in
set_option maxRecDepth 100000 in
theorem spec_l21Credit (n : Net) (q : NA) (a p c : Int) (w : World) (hr : NetR 121 w n q) (ok : netOk n = true) (nd : isNode n.mesh.g a = true) (p0 : 0 ≤ p) (p3 : p ≤ 3) (g0 : 0 ≤ c) (g1 : c ≤ 1) :
    Calls Tryz.prog 79 #[.agg (netCells n q), .int .i64 a, .int .i64 p, .int .i64 c] w fun e w' => e = .returned (.int .i64 (creditN n a p c)) ∧ Below w.heap.size w w' := by
  have OK := Lib.hid ok
  have hnd := isNode_iff.1 nd
  have a15 : a ≤ 15 := by have := count_le n.mesh.g; omega
  have a0 : 0 ≤ a := hnd.1
  have NBQ := Lib.hid hr.h9
  clear nd ok hnd
  obtain ⟨a1, a2, a3, a4, a5, a6, a7, a8, c1, c2, c3, c4, c5, c6, c7, c8⟩ := q; obtain ⟨Rbr, Rpa, Rpb, Rbu, Row, Rtu, Rso, Rar, L1, L2, L3, L4, L5, L6, L7, L8, L9, L10, L11⟩ := hr; have M9 := Lib.hid L9; have M10 := Lib.hid L10; have M11 := Lib.hid L11; clear L9 L10 L11; dsimp only [netCells] at *
  cases hl : live n.mesh (4 * a + p)
  · have HB : Hid (behindN n a p c = -1) := Lib.hid (by rw [behindN, if_neg (by omega), if_neg (by simp [hl])])
    have HN : Hid (creditN n a p c = -1) := Lib.hid (by unfold creditN; rw [HB.out]; rfl)
    go_enter Tryz.func79, Tryz.ntmps79
    go_wp2_with (go_at_call 124; refine (spec_l03Has n.mesh (4 * a + p) a1 _ _ (by exact Kd.C_below Rbr bel) L1).mono ?_; rintro e w1 ⟨rfl, hb1⟩; obtain ⟨hc1, hf1, hz1⟩ := bcell hb1; (try simp only [szs] at hz1); have hb2 := far2; obtain ⟨hc2, hf2, hz2⟩ := bcell hb2; (try simp only [szs] at hz2); try (first | obtain ⟨hy1, hy2, hy3, hy4⟩ := lts4 hz2 | obtain ⟨hy1, hy2, hy3⟩ := lts3 hz2 | obtain ⟨hy1, hy2⟩ := lts2 hz2 | have hy1 := lts1 hz2); have hb9 := hb1)
    go_ret
    exact ⟨ret_int HN.out.symm, bel⟩
  · have HB : Hid (behindN n a p c = behindI n a p c) := Lib.hid (by rw [behindN, if_neg (by omega), if_pos hl])
    obtain ⟨_, v0, v1, v2, v3, v4, v5⟩ := behind_idx (c := c) OK.out p0 p3 hl g0 g1
    have HN : Hid (creditN n a p c = 3 - ((rl n.bufs (behindI n a p c)).length : Int)) := Lib.hid (by unfold creditN; rw [HB.out, if_neg (by omega)])
    have hlen : (rl n.bufs (behindI n a p c)).length ≤ 2097152 := by
      have := NBQ.out (rl n.bufs (((behindI n a p c).toNat : Nat) : Int)) (rl_mem (by omega))
      rwa [Int.toNat_of_nonneg v4] at this
    unfold behindI at HN v4 v5 hlen
    obtain ⟨t, ht⟩ : ∃ t, nextNode n.mesh.g a p = t := ⟨_, rfl⟩
    rw [ht] at HN v0 v1 v4 v5 hlen
    have HX := Lib.hid ht
    clear ht
    obtain ⟨s, hs⟩ : ∃ s, opposite p = s := ⟨_, rfl⟩
    rw [hs] at HN v2 v3 v4 v5 hlen
    have HS := Lib.hid hs
    clear hs
    obtain ⟨b, off, rfl, hb, Ai, ci, r0, hle, hCi⟩ := rdB_int Rbu (10 * t + 2 * s + c) v4 v5
    obtain ⟨z1, z2, z3, z4, z5, z6⟩ := more hb
    have x5 : (w.alloc (.cells #[.int .i64 n.mesh.g.w, .int .i64 n.mesh.g.h, .slice a1 n.mesh.br.length c1, .slice a2 n.pa.length c2, .slice a3 n.pb.length c3, .slice (some ⟨b, off, none⟩) n.bufs.length c4, .slice a5 n.owners.length c5, .slice a6 n.turns.length c6, .slice a7 n.srcs.length c7, .slice a8 n.arrs.length c8, .int .i64 n.time] 44)).cell? ⟨w.heap.size, 5, none⟩ = some (.slice (some ⟨b, off, none⟩) n.bufs.length c4) := (Box.new w _ #[.int .i64 n.mesh.g.w, .int .i64 n.mesh.g.h, .slice a1 n.mesh.br.length c1, .slice a2 n.pa.length c2, .slice a3 n.pb.length c3, .slice (some ⟨b, off, none⟩) n.bufs.length c4, .slice a5 n.owners.length c5, .slice a6 n.turns.length c6, .slice a7 n.srcs.length c7, .slice a8 n.arrs.length c8, .int .i64 n.time] 44 rfl).get 5
    obtain ⟨l, el⟩ : ∃ l, rl n.bufs (10 * t + 2 * s + c) = l := ⟨_, rfl⟩
    rw [el] at HN r0 hlen
    clear el hCi hle
    go_enter Tryz.func79, Tryz.ntmps79
    go_wp2_with (first | (go_at_call 124; refine (spec_l03Has n.mesh (4 * a + p) a1 _ _ (by exact Kd.C_below Rbr bel) L1).mono ?_; rintro e w1 ⟨rfl, hb1⟩; obtain ⟨hc1, hf1, hz1⟩ := bcell hb1; (try simp only [szs] at hz1); have hb2 := far2; obtain ⟨hc2, hf2, hz2⟩ := bcell hb2; (try simp only [szs] at hz2); try (first | obtain ⟨hy1, hy2, hy3, hy4⟩ := lts4 hz2 | obtain ⟨hy1, hy2, hy3⟩ := lts3 hz2 | obtain ⟨hy1, hy2⟩ := lts2 hz2 | have hy1 := lts1 hz2); have hb9 := hb1) | (go_at_call 42; refine (spec_NextNode n.mesh.g a p _).mono ?_; rintro e w1 ⟨he, hb1⟩; rw [HX.out] at he; subst he; obtain ⟨hc1, hf1, hz1⟩ := bcell hb1; (try simp only [szs] at hz1); have hb2 := far2; obtain ⟨hc2, hf2, hz2⟩ := bcell hb2; (try simp only [szs] at hz2); try (first | obtain ⟨hy1, hy2, hy3, hy4⟩ := lts4 hz2 | obtain ⟨hy1, hy2, hy3⟩ := lts3 hz2 | obtain ⟨hy1, hy2⟩ := lts2 hz2 | have hy1 := lts1 hz2); have hb9 := hb1))
    refine wp_region_far ((w.alloc (.cells #[.int .i64 n.mesh.g.w, .int .i64 n.mesh.g.h, .slice a1 n.mesh.br.length c1, .slice a2 n.pa.length c2, .slice a3 n.pb.length c3, .slice (some ⟨b, off, none⟩) n.bufs.length c4, .slice a5 n.owners.length c5, .slice a6 n.turns.length c6, .slice a7 n.srcs.length c7, .slice a8 n.arrs.length c8, .int .i64 n.time] 44))) (by kernel_rfl) (by kernel_rfl) bel ?_
    have hqc := far_cell ((w.alloc (.cells #[.int .i64 n.mesh.g.w, .int .i64 n.mesh.g.h, .slice a1 n.mesh.br.length c1, .slice a2 n.pa.length c2, .slice a3 n.pb.length c3, .slice (some ⟨b, off, none⟩) n.bufs.length c4, .slice a5 n.owners.length c5, .slice a6 n.turns.length c6, .slice a7 n.srcs.length c7, .slice a8 n.arrs.length c8, .int .i64 n.time] 44)))
    have hqf := far_frozen ((w.alloc (.cells #[.int .i64 n.mesh.g.w, .int .i64 n.mesh.g.h, .slice a1 n.mesh.br.length c1, .slice a2 n.pa.length c2, .slice a3 n.pb.length c3, .slice (some ⟨b, off, none⟩) n.bufs.length c4, .slice a5 n.owners.length c5, .slice a6 n.turns.length c6, .slice a7 n.srcs.length c7, .slice a8 n.arrs.length c8, .int .i64 n.time] 44)))
    repeat (first | go_big_quiet_step ((go_at_call 43; exact far_call (Calls.says (spec_Opposite p _) (congrArg (Value.int .i64) HS.out)))) | quiet_step ((go_at_call 43; exact far_call (Calls.says (spec_Opposite p _) (congrArg (Value.int .i64) HS.out)))))
    refine wpQuiet_nil ?_
    intro wq hbq
    clear hqc hqf
    obtain ⟨hcq, hfq, hzq⟩ := bcell hbq
    try simp only [szs] at hzq
    go_wp2
    go_ret
    exact ⟨ret_int (by rw [HN.out]), bel⟩
set_option maxHeartbeats 8000000 in
set_option maxRecDepth 100000 in
theorem spec_CreditTable (n : Net) (q : NA) (w : World) (hr : NetR 121 w n q) :
  Calls Tryz.prog 40 #[.agg (netCells n q)] w fun e w' => GotI w w' (creditTableV n) e ∧ Below w.heap.size w w' := by
 have R := Lib.hid hr
 clear hr
 have hc16 := count_le n.mesh.g
 have hcn := count_nat n.mesh.g
 obtain ⟨K, hK⟩ : ∃ K : Nat, nodeCount n.mesh.g = (K : Int) := ⟨(nodeCount n.mesh.g).toNat, by omega⟩
 have K16 : K ≤ 16 := by omega
 have HK := Lib.hid hK
 obtain ⟨a1, a2, a3, a4, a5, a6, a7, a8, c1, c2, c3, c4, c5, c6, c7, c8⟩ := q
 dsimp only [netCells]
 have HX : Hid (Box (w.alloc (.cells #[.int .i64 n.mesh.g.w, .int .i64 n.mesh.g.h, .slice a1 n.mesh.br.length c1, .slice a2 n.pa.length c2, .slice a3 n.pb.length c3, .slice a4 n.bufs.length c4, .slice a5 n.owners.length c5, .slice a6 n.turns.length c6, .slice a7 n.srcs.length c7, .slice a8 n.arrs.length c8, .int .i64 n.time] 44)) w.heap.size #[.int .i64 n.mesh.g.w, .int .i64 n.mesh.g.h, .slice a1 n.mesh.br.length c1, .slice a2 n.pa.length c2, .slice a3 n.pb.length c3, .slice a4 n.bufs.length c4, .slice a5 n.owners.length c5, .slice a6 n.turns.length c6, .slice a7 n.srcs.length c7, .slice a8 n.arrs.length c8, .int .i64 n.time]) := Lib.hid (Box.new w w.heap.size #[.int .i64 n.mesh.g.w, .int .i64 n.mesh.g.h, .slice a1 n.mesh.br.length c1, .slice a2 n.pa.length c2, .slice a3 n.pb.length c3, .slice a4 n.bufs.length c4, .slice a5 n.owners.length c5, .slice a6 n.turns.length c6, .slice a7 n.srcs.length c7, .slice a8 n.arrs.length c8, .int .i64 n.time] 44 rfl)
 clear hcn hK hc16
 cases hk : netOk n
 ·have HE : Hid (creditTableV n = []) := Lib.hid (by unfold creditTableV; rw [hk]; rfl)
  go_enter Tryz.func40, Tryz.ntmps40
  go_wp2_with fail
  refine (spec_NetOk n ⟨a1, a2, a3, a4, a5, a6, a7, a8, c1, c2, c3, c4, c5, c6, c7, c8⟩ _ (R.out.below bel)).mono ?_
  rintro e w2 ⟨he, hb2⟩
  rw [hk] at he
  subst he
  have HB2 : Hid (Below w.heap.size w w2) := Lib.hid (bw_then (bw_alloc _ (bw_alloc _ (bw_refl w))) hb2)
  have HX2 := Lib.hid ((HX.out.alloc (.cells #[] 3)).below hb2)
  have HO2 : Hid (Kd.R (Kd.int .i64) 3 w2 w.heap.size (fun _ => True) (.slice (some ⟨w.heap.size + 1, 0, none⟩) 0 0) []) := Lib.hid (Kd.R_below (R_empty' (W0 := w) (W := w.alloc (.cells #[.int .i64 n.mesh.g.w, .int .i64 n.mesh.g.h, .slice a1 n.mesh.br.length c1, .slice a2 n.pa.length c2, .slice a3 n.pb.length c3, .slice a4 n.bufs.length c4, .slice a5 n.owners.length c5, .slice a6 n.turns.length c6, .slice a7 n.srcs.length c7, .slice a8 n.arrs.length c8, .int .i64 n.time] 44)) (Kd.int .i64) 3 (by simp only [szs]; omega) (w.heap.size + 1) (by simp only [szs])) hb2)
  have z2 := bw_size hb2
  simp only [szs] at z2
  clear hb2 hk
  go_wp2
  go_loopw [3, 5] (fun v j wr => j = .int .i64 0 ∧ v = .slice (some ⟨w.heap.size + 1, 0, none⟩) 0 0 ∧ Hid (Below w2.heap.size w2 wr)) (fun _ _ _ => 0)
  case atStart => exact ⟨rfl, rfl, Lib.hid (bw_refl w2)⟩
  case round =>
   obtain ⟨rfl, rfl, HBr⟩ := hrel
   have x0 : wr.cell? ⟨w.heap.size, 0, none⟩ = some (.int .i64 n.mesh.g.w) := (HX2.out.below HBr.out).get 0
   have x1 : wr.cell? ⟨w.heap.size, 1, none⟩ = some (.int .i64 n.mesh.g.h) := (HX2.out.below HBr.out).get 1
   have xl := (HX2.out.below HBr.out).lt
   go_wp2_with (go_at_call 78; refine (spec_NodeCount n.mesh.g _).mono ?_; rintro e w4 ⟨rfl, hb4⟩; rw [HK.out])
   all_goals go_ret
   all_goals exact ⟨⟨_, rfl, by rw [HE.out]; exact Kd.R_below (Kd.R_below HO2.out HBr.out) hb4⟩, bw_then (bw_then HB2.out HBr.out) hb4⟩
 ·have HE : Hid (creditTableV n = creditsTo n (8 * K)) := Lib.hid (by unfold creditTableV creditsN; rw [hk, HK.out]; rfl)
  have OK := Lib.hid hk
  rw [HE.out]
  go_enter Tryz.func40, Tryz.ntmps40
  go_wp2_with fail
  refine (spec_NetOk n ⟨a1, a2, a3, a4, a5, a6, a7, a8, c1, c2, c3, c4, c5, c6, c7, c8⟩ _ (R.out.below bel)).mono ?_
  rintro e w2 ⟨he, hb2⟩
  rw [hk] at he
  subst he
  have HB2 : Hid (Below w.heap.size w w2) := Lib.hid (bw_then (bw_alloc _ (bw_alloc _ (bw_refl w))) hb2)
  have HX2 := Lib.hid ((HX.out.alloc (.cells #[] 3)).below hb2)
  have HO2 : Hid (Kd.R (Kd.int .i64) 3 w2 (w.heap.size + 1) (fun _ => True) (.slice (some ⟨w.heap.size + 1, 0, none⟩) 0 0) (creditsTo n 0)) := Lib.hid (by
   have h := R_empty' (W0 := w.alloc (.cells #[.int .i64 n.mesh.g.w, .int .i64 n.mesh.g.h, .slice a1 n.mesh.br.length c1, .slice a2 n.pa.length c2, .slice a3 n.pb.length c3, .slice a4 n.bufs.length c4, .slice a5 n.owners.length c5, .slice a6 n.turns.length c6, .slice a7 n.srcs.length c7, .slice a8 n.arrs.length c8, .int .i64 n.time] 44)) (W := w.alloc (.cells #[.int .i64 n.mesh.g.w, .int .i64 n.mesh.g.h, .slice a1 n.mesh.br.length c1, .slice a2 n.pa.length c2, .slice a3 n.pb.length c3, .slice a4 n.bufs.length c4, .slice a5 n.owners.length c5, .slice a6 n.turns.length c6, .slice a7 n.srcs.length c7, .slice a8 n.arrs.length c8, .int .i64 n.time] 44)) (Kd.int .i64) 3 (Nat.le_refl _) (w.heap.size + 1) (by simp only [szs])
   simp only [szs] at h
   exact Kd.R_below h hb2)
  have z2 := bw_size hb2
  simp only [szs] at z2
  clear hb2 hk
  go_wp2
  go_loopw [3, 5] (fun v j wr => ∃ k : Nat, j = .int .i64 k ∧ k ≤ 8 * K ∧ Hid (Kd.R (Kd.int .i64) 3 wr (w.heap.size + 1) (fun _ => True) v (creditsTo n k)) ∧ Hid (Below (w.heap.size + 1) w2 wr)) (fun _ j _ => 8 * K - (intOf j).toNat)
  case atStart => exact ⟨0, rfl, Nat.zero_le _, Lib.hid HO2.out, Lib.hid (Below.cut (bw_refl w2) (by omega))⟩
  case round =>
   obtain ⟨k, rfl, hk, HOr, HBr⟩ := hrel
   obtain ⟨Ao, co, rfl⟩ := Kd.R_slice HOr.out
   have hlen := creditsTo_len n k
   have hlen2 : (creditsTo n k).length ≤ 1000 := by omega
   clear hlen
   have hB : Below w.heap.size w wr := bw_trans HB2.out HBr.out (by omega)
   have HXr := Lib.hid (box_low HX2.out HBr.out (by omega))
   have x0 : wr.cell? ⟨w.heap.size, 0, none⟩ = some (.int .i64 n.mesh.g.w) := HXr.out.get 0
   have x1 : wr.cell? ⟨w.heap.size, 1, none⟩ = some (.int .i64 n.mesh.g.h) := HXr.out.get 1
   have xl := HXr.out.lt
   by_cases hlt : k < 8 * K
   ·have i0 : (k : Int) < 8 * (K : Int) := by omega
    have k0 : (0 : Int) ≤ (k : Int) := by omega
    obtain ⟨y, hy⟩ : ∃ y, creditN n ((k / 8 : Nat) : Int) ((k / 2 % 4 : Nat) : Int) ((k % 2 : Nat) : Int) = y := ⟨_, rfl⟩
    have HS : Hid (creditsTo n (k + 1) = creditsTo n k ++ [y]) := Lib.hid (by rw [creditsTo_succ, ← hy]; rfl)
    have HY : Hid (∀ W, Below w.heap.size w W → Calls Tryz.prog 79 #[.agg #[.int .i64 n.mesh.g.w, .int .i64 n.mesh.g.h, .slice a1 n.mesh.br.length c1, .slice a2 n.pa.length c2, .slice a3 n.pb.length c3, .slice a4 n.bufs.length c4, .slice a5 n.owners.length c5, .slice a6 n.turns.length c6, .slice a7 n.srcs.length c7, .slice a8 n.arrs.length c8, .int .i64 n.time], .int .i64 ((k : Int) / 8), .int .i64 ((k : Int) / 2 % 4), .int .i64 ((k : Int) % 2)] W fun e w' => e = .returned (.int .i64 y) ∧ Below W.heap.size W w') := Lib.hid (fun W hW => by
     have h := spec_l21Credit n ⟨a1, a2, a3, a4, a5, a6, a7, a8, c1, c2, c3, c4, c5, c6, c7, c8⟩ ((k / 8 : Nat) : Int) ((k / 2 % 4 : Nat) : Int) ((k % 2 : Nat) : Int) W (R.out.below hW) OK.out (isNode_iff.2 ⟨by omega, by rw [HK.out]; omega⟩) (by omega) (by omega) (by omega) (by omega)
     rw [hy] at h
     exact h)
    clear hy
    go_wp2_with fail
    refine (spec_NodeCount n.mesh.g _).mono ?_
    rintro e w4 ⟨rfl, hb4⟩
    rw [HK.out]
    have HB4 := Lib.hid (bw_trans HBr.out hb4 (by have := HBr.out.size; omega))
    have HO4 := Lib.hid (Kd.R_below HOr.out hb4)
    clear x0 x1 xl hB hb4
    have hB4 : Below w.heap.size w w4 := bw_trans HB2.out HB4.out (by omega)
    have HX4 := Lib.hid (box_low HX2.out HB4.out (by omega))
    have box11 : Box w4 w.heap.size #[.int .i64 n.mesh.g.w, .int .i64 n.mesh.g.h, .slice a1 n.mesh.br.length c1, .slice a2 n.pa.length c2, .slice a3 n.pb.length c3, .slice a4 n.bufs.length c4, .slice a5 n.owners.length c5, .slice a6 n.turns.length c6, .slice a7 n.srcs.length c7, .slice a8 n.arrs.length c8, .int .i64 n.time] := HX4.out
    obtain ⟨x0, x1, x2, x3, x4, x5, x6, x7, x8, x9, x10⟩ := all11 box11
    clear box11
    have xl := HX4.out.lt
    go_wp2_with fail
    refine (HY.out _ hB4).mono ?_
    rintro e w5 ⟨rfl, hb5⟩
    have HO5 := Kd.R_below HO4.out hb5
    have HB5 := bw_then hB4 hb5
    have HB6 := Lib.hid (bw_trans HB4.out hb5 (by have := HB4.out.size; omega))
    clear x0 x1 x2 x3 x4 x5 x6 x7 x8 x9 x10 xl
    go_wp2_with (at_builtin; refine app_intN (B := w.heap.size + 1) rfl (.tmp 21) (.tmp 31) rfl _ (creditsTo n k) y rfl rfl HO5 (by have := HB6.out.size; omega) (by omega) ?_; intro v1 w1 HO1 hg1 ha1)
    have HB7 : Hid (Below (w.heap.size + 1) w2 w1) := Lib.hid (HB6.out.grown hg1 (by have := HB6.out.size; omega) (fun j hj => Kd.R_base HO5 j hj))
    go_roundw
    case rel => exact ⟨k + 1, by go_num, by omega, Lib.hid (by rw [HS.out]; exact HO1), Lib.hid HB7.out⟩
    case measure => simp [intOf]; omega
   ·have i0 : ¬ (k : Int) < 8 * (K : Int) := by omega
    obtain rfl : k = 8 * K := by omega
    go_wp2_with fail
    refine (spec_NodeCount n.mesh.g _).mono ?_
    rintro e w4 ⟨rfl, hb4⟩
    rw [HK.out]
    go_wp2
    go_ret
    exact ⟨⟨_, rfl, Kd.R_lower (Kd.R_below HOr.out hb4) (by omega)⟩, bw_then hB hb4⟩
set_option maxHeartbeats 16000000 in
set_option maxRecDepth 100000 in
theorem spec_CreditsAfter (n : Net) (q : NA) (w : World) (hr : NetR 121 w n q) :
  Calls Tryz.prog 10 #[.agg (netCells n q)] w fun e w' => GotI w w' (creditsAfterV n) e ∧ Below w.heap.size w w' := by
 have R := Lib.hid hr
 clear hr
 obtain ⟨a1, a2, a3, a4, a5, a6, a7, a8, c1, c2, c3, c4, c5, c6, c7, c8⟩ := q
 dsimp only [netCells]
 have HX : Hid (Box (w.alloc (.cells #[.int .i64 n.mesh.g.w, .int .i64 n.mesh.g.h, .slice a1 n.mesh.br.length c1, .slice a2 n.pa.length c2, .slice a3 n.pb.length c3, .slice a4 n.bufs.length c4, .slice a5 n.owners.length c5, .slice a6 n.turns.length c6, .slice a7 n.srcs.length c7, .slice a8 n.arrs.length c8, .int .i64 n.time] 44)) w.heap.size #[.int .i64 n.mesh.g.w, .int .i64 n.mesh.g.h, .slice a1 n.mesh.br.length c1, .slice a2 n.pa.length c2, .slice a3 n.pb.length c3, .slice a4 n.bufs.length c4, .slice a5 n.owners.length c5, .slice a6 n.turns.length c6, .slice a7 n.srcs.length c7, .slice a8 n.arrs.length c8, .int .i64 n.time]) := Lib.hid (Box.new w w.heap.size #[.int .i64 n.mesh.g.w, .int .i64 n.mesh.g.h, .slice a1 n.mesh.br.length c1, .slice a2 n.pa.length c2, .slice a3 n.pb.length c3, .slice a4 n.bufs.length c4, .slice a5 n.owners.length c5, .slice a6 n.turns.length c6, .slice a7 n.srcs.length c7, .slice a8 n.arrs.length c8, .int .i64 n.time] 44 rfl)
 cases hk : netOk n
 ·have HE : Hid (creditsAfterV n = []) := Lib.hid (by unfold creditsAfterV; rw [hk]; rfl)
  have HT : Hid (creditTableV n = []) := Lib.hid (by unfold creditTableV; rw [hk]; rfl)
  have HG : Hid (allGrantsN n = []) := Lib.hid (by unfold allGrantsN; rw [hk]; rfl)
  clear hk
  go_enter Tryz.func10, Tryz.ntmps10
  go_wp2_with fail
  refine (spec_CreditTable n ⟨a1, a2, a3, a4, a5, a6, a7, a8, c1, c2, c3, c4, c5, c6, c7, c8⟩ _ (R.out.below bel)).mono ?_
  rintro e w3 ⟨hg3, hb3⟩
  rw [HT.out] at hg3
  obtain ⟨vc, rfl, HO3⟩ := hg3
  obtain ⟨Ac, cc, rfl⟩ := Kd.R_slice HO3
  have HX3 := Lib.hid (HX.out.below hb3)
  have HB3 : Hid (Below w.heap.size w w3) := Lib.hid (bw_then (bw_alloc _ (bw_refl w)) hb3)
  have HO3 := Lib.hid (Kd.R_lower HO3 (show w.heap.size ≤ _ by simp only [szs]; omega))
  have z3 := bw_size hb3
  simp only [szs] at z3
  clear hb3 HX
  have box11 : Box w3 w.heap.size #[.int .i64 n.mesh.g.w, .int .i64 n.mesh.g.h, .slice a1 n.mesh.br.length c1, .slice a2 n.pa.length c2, .slice a3 n.pb.length c3, .slice a4 n.bufs.length c4, .slice a5 n.owners.length c5, .slice a6 n.turns.length c6, .slice a7 n.srcs.length c7, .slice a8 n.arrs.length c8, .int .i64 n.time] := HX3.out
  obtain ⟨x0, x1, x2, x3, x4, x5, x6, x7, x8, x9, x10⟩ := all11 box11
  clear box11
  have xl3 := HX3.out.lt
  go_wp2_with fail
  refine (spec_AllGrants n ⟨a1, a2, a3, a4, a5, a6, a7, a8, c1, c2, c3, c4, c5, c6, c7, c8⟩ _ (R.out.below HB3.out)).mono ?_
  rintro e w5 ⟨hg5, hb5⟩
  rw [HG.out] at hg5
  obtain ⟨vg, rfl, HGR⟩ := hg5
  obtain ⟨Ag, cg, rfl⟩ := Kd.R_slice HGR
  have HO5 := Lib.hid (Kd.R_below HO3.out hb5)
  have HB5 := Lib.hid (bw_then HB3.out hb5)
  clear hb5 x0 x1 x2 x3 x4 x5 x6 x7 x8 x9 x10 xl3 HGR
  go_wp2_with fail
  go_loopw [5] (fun i wr => i = .int .i64 0 ∧ wr = w5) (fun _ _ => 0)
  case atStart => exact ⟨rfl, rfl⟩
  case round =>
   obtain ⟨rfl, rfl⟩ := hrel
   go_wp2
   go_ret
   exact ⟨⟨_, rfl, by rw [HE.out]; exact HO5.out⟩, HB5.out⟩
 ·have HE : Hid (creditsAfterV n = creditsAfterN n) := Lib.hid (by unfold creditsAfterV; rw [hk]; rfl)
  have HT : Hid (creditTableV n = creditsN n) := Lib.hid (by unfold creditTableV; rw [hk]; rfl)
  have HAG : Hid (allGrantsN n = allGrants n) := Lib.hid (by unfold allGrantsN; rw [hk]; rfl)
  have OK := Lib.hid hk
  clear hk
  rw [HE.out]
  go_enter Tryz.func10, Tryz.ntmps10
  go_wp2_with fail
  refine (spec_CreditTable n ⟨a1, a2, a3, a4, a5, a6, a7, a8, c1, c2, c3, c4, c5, c6, c7, c8⟩ _ (R.out.below bel)).mono ?_
  rintro e w3 ⟨hg3, hb3⟩
  rw [HT.out] at hg3
  obtain ⟨vc, rfl, HO3⟩ := hg3
  obtain ⟨Ac, cc, rfl⟩ := Kd.R_slice HO3
  obtain ⟨_, _, _, _, _, _⟩ := netOk_parts OK.out
  have hKc := count_nat n.mesh.g
  have hK16 := count_le n.mesh.g
  have hlen0 : ((creditsN n).length : Int) = 8 * nodeCount n.mesh.g := csTo_len n 0
  have hpos : 0 < (creditsN n).length := by have := sized_count (classesOk_sized (ok_classes OK.out)).1; omega
  obtain ⟨gs, eA, glo, glt⟩ := rowI_form HO3 hpos
  subst eA
  obtain ⟨N, hN⟩ : ∃ N, (creditsN n).length = N := ⟨_, rfl⟩
  have HLEN : Hid (∀ k : Nat, (csTo n k).length = N) := Lib.hid (fun k => by have := csTo_len n k; omega)
  have HNC : Hid ((N : Int) = 8 * nodeCount n.mesh.g) := Lib.hid (by omega)
  rw [hN] at HO3
  simp only [szs] at glo
  have HX3 := Lib.hid (HX.out.below hb3)
  have HB3 : Hid (Below w.heap.size w w3) := Lib.hid (bw_then (bw_alloc _ (bw_refl w)) hb3)
  have HO3 := Lib.hid (Kd.R_lower HO3 (show w.heap.size + 1 ≤ _ by simp only [szs]; omega))
  have z3 := bw_size hb3
  simp only [szs] at z3
  clear hb3 HX hpos hlen0
  try rw [hN]
  clear hN
  have box11 : Box w3 w.heap.size #[.int .i64 n.mesh.g.w, .int .i64 n.mesh.g.h, .slice a1 n.mesh.br.length c1, .slice a2 n.pa.length c2, .slice a3 n.pb.length c3, .slice a4 n.bufs.length c4, .slice a5 n.owners.length c5, .slice a6 n.turns.length c6, .slice a7 n.srcs.length c7, .slice a8 n.arrs.length c8, .int .i64 n.time] := HX3.out
  obtain ⟨x0, x1, x2, x3, x4, x5, x6, x7, x8, x9, x10⟩ := all11 box11
  clear box11
  have xl3 := HX3.out.lt
  go_wp2_with fail
  refine (spec_AllGrants n ⟨a1, a2, a3, a4, a5, a6, a7, a8, c1, c2, c3, c4, c5, c6, c7, c8⟩ _ (R.out.below HB3.out)).mono ?_
  rintro e w5 ⟨hg5, hb5⟩
  rw [HAG.out] at hg5
  obtain ⟨vg, rfl, HG⟩ := hg5
  obtain ⟨Ag, cg, rfl⟩ := Kd.R_slice HG
  have HU := Lib.hid (RU.of HG (Nat.le_refl _) (Nat.le_refl _))
  have HX5 := Lib.hid (HX3.out.below hb5)
  have HB5 : Hid (Below w.heap.size w w5) := Lib.hid (bw_then HB3.out hb5)
  have HO5 := Lib.hid (Kd.R_below HO3.out hb5)
  have z5 := bw_size hb5
  have hgl := allGrants_len n
  have gw : w.heap.size < gs := by omega
  have gw3 : gs + 1 ≤ w3.heap.size := by omega
  clear HG hb5 HX3 HO3 x0 x1 x2 x3 x4 x5 x6 x7 x8 x9 x10 xl3
  have HONE : Hid (∀ k : Nat, k < (allGrants n).length → GOne n (rg (allGrants n) k)) := Lib.hid (fun k hk => grants_one (by rw [rg_get _ k hk]; exact List.getElem_mem hk))
  go_wp2_with fail
  go_loopw [5] (fun i wr => ∃ k : Nat, i = .int .i64 k ∧ k ≤ (allGrants n).length ∧ Hid (Kd.R (Kd.int .i64) 3 wr (w.heap.size + 1) (fun _ => True) (.slice (some ⟨gs, 0, none⟩) N cc) (csTo n k)) ∧ Hid (Chg gs (gs + 1) w5 wr)) (fun i _ => (allGrants n).length - (intOf i).toNat)
  case atStart => exact ⟨0, rfl, Nat.zero_le _, Lib.hid HO5.out, Lib.hid (Chg.refl _ _ _)⟩
  case round =>
   clear HO5
   obtain ⟨k, rfl, hk, HOk, HCk⟩ := hrel
   obtain ⟨wk, ewk⟩ : ∃ z, z = wr := ⟨_, rfl⟩
   subst ewk
   have zk := HCk.out.size
   have HXk := Lib.hid (HX5.out.chg HCk.out (.inl gw))
   have HUk := Lib.hid (HU.out.chg HCk.out (.inr gw3))
   have HBk : Hid (Below w.heap.size w wk) := Lib.hid (HCk.out.below HB5.out (by omega))
   by_cases hlt : k < (allGrants n).length
   ·have G1 := HONE.out k hlt
    have hbd := csTo_bd OK.out k hk
    have HSU := Lib.hid (csTo_succ n hlt)
    obtain ⟨b, off, rfl, hbw, r0, r1, r2⟩ := rdG_at HUk.out.reads.2.2 k hlt
    obtain ⟨g, hg⟩ : ∃ g, rg (allGrants n) k = g := ⟨_, rfl⟩
    rw [hg] at r0 r1 r2 G1 HSU
    have nd := isNode_iff.1 G1.nd
    have q0 := G1.p0; have q4 := G1.p4; have i0 := G1.i0; have i9 := G1.i9
    have k1 : (k : Int) < ((allGrants n).length : Int) := by omega
    have kk0 : (0 : Int) ≤ (k : Int) := by omega
    have HG1 := Lib.hid G1
    have HBD := Lib.hid hbd
    obtain ⟨a, ea⟩ : ∃ a, g.node = a := ⟨_, rfl⟩
    obtain ⟨pp, ep⟩ : ∃ a, g.port = a := ⟨_, rfl⟩
    obtain ⟨ii, ei⟩ : ∃ a, g.input = a := ⟨_, rfl⟩
    rw [ea] at r0 nd
    rw [ep] at r1 q0 q4
    rw [ei] at r2 i0 i9
    have HEA := Lib.hid ea; have HEP := Lib.hid ep; have HEI := Lib.hid ei
    have n16 : a ≤ 15 := by omega
    clear G1 hbd ea ep ei hg
    obtain ⟨wa, ewa⟩ : ∃ z, z = wk.alloc (.cells #[.int .i64 a, .int .i64 pp, .int .i64 ii] 76) := ⟨_, rfl⟩
    have hba : Below wk.heap.size wk wa := by rw [ewa]; exact bw_alloc _ (bw_refl wk)
    have HGa : Hid (Box wa wk.heap.size #[.int .i64 a, .int .i64 pp, .int .i64 ii]) := Lib.hid (by rw [ewa]; exact Box.new wk _ _ _ rfl)
    have HOa := Lib.hid (Kd.R_below HOk.out hba)
    have HCa := Lib.hid (HCk.out.trans (Chg.of_below hba))
    have HXa := Lib.hid (HXk.out.below hba)
    have gbg : gs + 1 ≤ wk.heap.size := by omega
    have za := bw_size hba
    clear hba
    obtain ⟨l1, hl1⟩ : ∃ l1, (if g.port = 4 then csTo n k else (csTo n k).set (decK g).toNat (ri (csTo n k) (decK g) - 1)) = l1 := ⟨_, rfl⟩
    have HL1 := Lib.hid hl1
    have HS1 : Hid (csTo n (k + 1) = incC n l1 g) := Lib.hid (by rw [HSU.out]; unfold specC; rw [hl1])
    have HLN1 : Hid (l1.length = N) := Lib.hid (by rw [← hl1]; split; exact HLEN.out k; rw [List.length_set]; exact HLEN.out k)
    have HBD1 : Hid (∀ j, -1000 ≤ ri l1 j ∧ ri l1 j ≤ 1000) := Lib.hid (fun j => by
     rw [← hl1]
     split
     ·have := HBD.out j; omega
     ·have := set_bd HBD.out (by omega) (decK g).toNat (ri (csTo n k) (decK g) - 1) (by have := HBD.out (decK g); omega) j; omega)
    clear hl1
    have xk0 : wk.cell? ⟨w.heap.size, 0, none⟩ = some (.int .i64 n.mesh.g.w) := HXk.out.get 0
    have xk1 : wk.cell? ⟨w.heap.size, 1, none⟩ = some (.int .i64 n.mesh.g.h) := HXk.out.get 1
    have xkl := HXk.out.lt
    have gsl : gs < wk.heap.size := by omega
    have gsn : ¬ gs = wk.heap.size := by omega
    have gwn : ¬ w.heap.size = gs := by omega
    by_cases h4 : pp = 4
    ·have HI1 : Hid (l1 = csTo n k) := Lib.hid (by rw [← HL1.out, if_pos (by rw [HEP.out]; exact h4)])
     have HOb : Hid (Kd.R (Kd.int .i64) 3 wa (w.heap.size + 1) (fun _ => True) (.slice (some ⟨gs, 0, none⟩) N cc) l1) := Lib.hid (by rw [HI1.out]; exact HOa.out)
     have HCb := HCa
     have HXb := HXa
     have HGb := HGa
     have e4 : (pp != 4) = false := by simp [h4]
     clear h4
     by_cases h8 : ii / 2 = 4
     ·have HI : Hid (incC n l1 g = l1) := Lib.hid (by unfold incC incB; rw [HEI.out, h8]; rfl)
      go_wp2
      try rw [← ewa]
      go_roundw
      case rel => exact ⟨k + 1, by go_num, by omega, Lib.hid (by rw [HS1.out, HI.out]; exact HOb.out), Lib.hid HCb.out⟩
      case measure => simp [intOf]; omega
     ·have e8 : (ii / 2 == 4) = false := beq_eq_false_iff_ne.2 h8
      go_wp2_with fail
      try rw [← ewa]
      refine (spec_NextNode n.mesh.g a (ii / 2) _).mono ?_
      rintro e wn ⟨rfl, hbn⟩
      obtain ⟨nn, hnn⟩ : ∃ z, nextNode n.mesh.g a (ii / 2) = z := ⟨_, rfl⟩
      have HNN := Lib.hid hnn
      rw [hnn]
      clear hnn
      have HOn := Lib.hid (Kd.R_below HOb.out hbn)
      have HCn := Lib.hid (HCb.out.trans (Chg.of_below hbn))
      have zn := bw_size hbn
      clear hbn
      by_cases h0 : 0 ≤ nn
      ·have hin := incK_in HG1.out (by unfold incB; rw [HEI.out, HEA.out, HNN.out]; simp [h8, h0])
       have ho := opp_eq (p := ii / 2) (by omega) (by omega)
       have hnn2 := isNode_iff.1 (next_in (g := n.mesh.g) (a := a) (p := ii / 2) (by rw [HNN.out]; exact h0))
       rw [HNN.out] at hnn2
       obtain ⟨oo, hoo⟩ : ∃ z, opposite (ii / 2) = z := ⟨_, rfl⟩
       have HOO := Lib.hid hoo
       rw [hoo] at ho
       have hoo3 : 0 ≤ oo ∧ oo ≤ 3 := by omega
       have hk2 : 0 ≤ (4 * nn + oo) * 2 + ii % 2 ∧ (4 * nn + oo) * 2 + ii % 2 < (N : Int) := by
        unfold incK at hin
        rw [HEI.out, HEA.out, HNN.out, hoo] at hin
        have := HNC.out
        omega
       obtain ⟨ke, hke⟩ : ∃ ke : Nat, (4 * nn + oo) * 2 + ii % 2 = (ke : Int) := ⟨((4 * nn + oo) * 2 + ii % 2).toNat, by omega⟩
       have kel : (ke : Int) < (N : Int) := by omega
       have ke0 : (0 : Int) ≤ (ke : Int) := by omega
       have hik : incK n g = (ke : Int) := by unfold incK; rw [HEI.out, HEA.out, HNN.out, HOO.out]; omega
       obtain ⟨y, hy⟩ : ∃ y, ri l1 (ke : Int) = y := ⟨_, rfl⟩
       have hyb : -1000 ≤ y ∧ y ≤ 1000 := by rw [← hy]; exact HBD1.out (ke : Int)
       have HI : Hid (incC n l1 g = if y = -1 then l1 else l1.set ke (y + 1)) := Lib.hid (by unfold incC chgC; rw [if_pos (by unfold incB; rw [HEI.out, HEA.out, HNN.out]; simp [h8, h0]), hik, hy, Int.toNat_natCast])
       clear hin hoo ho hik
       go_wp2_with fail
       refine (spec_Opposite (ii / 2) _).mono ?_
       rintro e wo ⟨rfl, hbo⟩
       rw [HOO.out]
       have HOo := Lib.hid (Kd.R_below HOn.out hbo)
       have HCo := Lib.hid (HCn.out.trans (Chg.of_below hbo))
       have zo := bw_size hbo
       obtain ⟨hgc, hgf⟩ := rowI_cell HOo.out ke (by omega)
       rw [hy] at hgc
       have gso : gs < wo.heap.size := by omega
       clear hbo hy
       by_cases hm : y = -1
       ·have HI2 : Hid (incC n l1 g = l1) := Lib.hid (by rw [HI.out, if_pos hm])
        subst hm
        go_wp2
        go_roundw
        case rel => exact ⟨k + 1, by go_num, by omega, Lib.hid (by rw [HS1.out, HI2.out]; exact HOo.out), Lib.hid HCo.out⟩
        case measure => simp [intOf]; omega
       ·have HI2 : Hid (incC n l1 g = l1.set ke (y + 1)) := Lib.hid (by rw [HI.out, if_neg hm])
        have em : (y != -1) = true := by simp [hm]
        have HOz : Hid (Kd.R (Kd.int .i64) 3 (wo.setCell ⟨gs, ke, none⟩ (.int .i64 (y + 1))) (w.heap.size + 1) (fun _ => True) (.slice (some ⟨gs, 0, none⟩) N cc) (l1.set ke (y + 1))) := Lib.hid (rowI_set HOo.out ke (y + 1))
        have HCz : Hid (Chg gs (gs + 1) w5 (wo.setCell ⟨gs, ke, none⟩ (.int .i64 (y + 1)))) := Lib.hid (HCo.out.trans (chg_one (grown_set wo gs ke _)))
        go_wp2
        go_roundw
        case rel => exact ⟨k + 1, by go_num, by omega, Lib.hid (by rw [HS1.out, HI2.out]; exact HOz.out), Lib.hid HCz.out⟩
        case measure => simp [intOf]; omega
      ·have HI : Hid (incC n l1 g = l1) := Lib.hid (by unfold incC incB; rw [HEI.out, HEA.out, HNN.out]; simp [h0])
       go_wp2
       go_roundw
       case rel => exact ⟨k + 1, by go_num, by omega, Lib.hid (by rw [HS1.out, HI.out]; exact HOn.out), Lib.hid HCn.out⟩
       case measure => simp [intOf]; omega
    ·have hdk := decK_in OK.out HG1.out (by rw [HEP.out]; exact h4)
     have hk1 : 2 * (4 * a + pp) + ii % 2 < (N : Int) := by
      unfold decK at hdk
      rw [HEA.out, HEP.out, HEI.out] at hdk
      have := HNC.out
      omega
     obtain ⟨kd, hkd⟩ : ∃ kd : Nat, (4 * a + pp) * 2 + ii % 2 = (kd : Int) := ⟨((4 * a + pp) * 2 + ii % 2).toNat, by omega⟩
     have hdk2 : decK g = (kd : Int) := by unfold decK; rw [HEA.out, HEP.out, HEI.out]; omega
     have kdl : (kd : Int) < (N : Int) := by omega
     have kd0 : (0 : Int) ≤ (kd : Int) := by omega
     obtain ⟨x, hx⟩ : ∃ x, ri (csTo n k) (kd : Int) = x := ⟨_, rfl⟩
     have hxb : -1000 ≤ x ∧ x ≤ 1000 := by rw [← hx]; have := HBD.out (kd : Int); omega
     have HI1 : Hid (l1 = (csTo n k).set kd (x - 1)) := Lib.hid (by rw [← HL1.out, if_neg (by rw [HEP.out]; exact h4), hdk2, Int.toNat_natCast, hx])
     obtain ⟨hgc, hgf⟩ := rowI_cell HOk.out kd (by omega)
     rw [hx] at hgc
     obtain ⟨ws, ews⟩ : ∃ z, z = wk.setCell ⟨gs, kd, none⟩ (.int .i64 (x - 1)) := ⟨_, rfl⟩
     have hgb : wk.grownBy ws (some gs) := by rw [ews]; exact grown_set wk gs kd _
     have hcb := chg_one hgb
     have hOs : Kd.R (Kd.int .i64) 3 ws (w.heap.size + 1) (fun _ => True) (.slice (some ⟨gs, 0, none⟩) N cc) l1 := by rw [HI1.out, ews]; exact rowI_set HOk.out kd (x - 1)
     obtain ⟨wb, ewb⟩ : ∃ z, z = (wk.setCell ⟨gs, kd, none⟩ (.int .i64 (x - 1))).alloc (.cells #[.int .i64 a, .int .i64 pp, .int .i64 ii] 76) := ⟨_, rfl⟩
     have hbb : Below ws.heap.size ws wb := by rw [ewb, ews]; exact bw_alloc _ (bw_refl _)
     have HOb : Hid (Kd.R (Kd.int .i64) 3 wb (w.heap.size + 1) (fun _ => True) (.slice (some ⟨gs, 0, none⟩) N cc) l1) := Lib.hid (Kd.R_below hOs hbb)
     have HCb := Lib.hid ((HCk.out.trans hcb).trans (Chg.of_below hbb))
     have zws : ws.heap.size = wk.heap.size := by rw [ews]; simp only [szs]
     have zwb := bw_size hbb
     clear hOs hbb ews
     have e4 : (pp != 4) = true := by simp [h4]
     clear hgb hcb hdk hdk2 hx hk1 h4
     by_cases h8 : ii / 2 = 4
     ·have HI : Hid (incC n l1 g = l1) := Lib.hid (by unfold incC incB; rw [HEI.out, h8]; rfl)
      go_wp2
      (try rw [← ewa]); (try rw [← ewb])
      go_roundw
      case rel => exact ⟨k + 1, by go_num, by omega, Lib.hid (by rw [HS1.out, HI.out]; exact HOb.out), Lib.hid HCb.out⟩
      case measure => simp [intOf]; omega
     ·have e8 : (ii / 2 == 4) = false := beq_eq_false_iff_ne.2 h8
      go_wp2_with fail
      (try rw [← ewa]); (try rw [← ewb])
      refine (spec_NextNode n.mesh.g a (ii / 2) _).mono ?_
      rintro e wn ⟨rfl, hbn⟩
      obtain ⟨nn, hnn⟩ : ∃ z, nextNode n.mesh.g a (ii / 2) = z := ⟨_, rfl⟩
      have HNN := Lib.hid hnn
      rw [hnn]
      clear hnn
      have HOn := Lib.hid (Kd.R_below HOb.out hbn)
      have HCn := Lib.hid (HCb.out.trans (Chg.of_below hbn))
      have zn := bw_size hbn
      clear hbn
      by_cases h0 : 0 ≤ nn
      ·have hin := incK_in HG1.out (by unfold incB; rw [HEI.out, HEA.out, HNN.out]; simp [h8, h0])
       have ho := opp_eq (p := ii / 2) (by omega) (by omega)
       have hnn2 := isNode_iff.1 (next_in (g := n.mesh.g) (a := a) (p := ii / 2) (by rw [HNN.out]; exact h0))
       rw [HNN.out] at hnn2
       obtain ⟨oo, hoo⟩ : ∃ z, opposite (ii / 2) = z := ⟨_, rfl⟩
       have HOO := Lib.hid hoo
       rw [hoo] at ho
       have hoo3 : 0 ≤ oo ∧ oo ≤ 3 := by omega
       have hk2 : 0 ≤ (4 * nn + oo) * 2 + ii % 2 ∧ (4 * nn + oo) * 2 + ii % 2 < (N : Int) := by
        unfold incK at hin
        rw [HEI.out, HEA.out, HNN.out, hoo] at hin
        have := HNC.out
        omega
       obtain ⟨ke, hke⟩ : ∃ ke : Nat, (4 * nn + oo) * 2 + ii % 2 = (ke : Int) := ⟨((4 * nn + oo) * 2 + ii % 2).toNat, by omega⟩
       have kel : (ke : Int) < (N : Int) := by omega
       have ke0 : (0 : Int) ≤ (ke : Int) := by omega
       have hik : incK n g = (ke : Int) := by unfold incK; rw [HEI.out, HEA.out, HNN.out, HOO.out]; omega
       obtain ⟨y, hy⟩ : ∃ y, ri l1 (ke : Int) = y := ⟨_, rfl⟩
       have hyb : -1000 ≤ y ∧ y ≤ 1000 := by rw [← hy]; exact HBD1.out (ke : Int)
       have HI : Hid (incC n l1 g = if y = -1 then l1 else l1.set ke (y + 1)) := Lib.hid (by unfold incC chgC; rw [if_pos (by unfold incB; rw [HEI.out, HEA.out, HNN.out]; simp [h8, h0]), hik, hy, Int.toNat_natCast])
       clear hin hoo ho hik
       go_wp2_with fail
       refine (spec_Opposite (ii / 2) _).mono ?_
       rintro e wo ⟨rfl, hbo⟩
       rw [HOO.out]
       have HOo := Lib.hid (Kd.R_below HOn.out hbo)
       have HCo := Lib.hid (HCn.out.trans (Chg.of_below hbo))
       have zo := bw_size hbo
       obtain ⟨hgc, hgf⟩ := rowI_cell HOo.out ke (by omega)
       rw [hy] at hgc
       have gso : gs < wo.heap.size := by omega
       clear hbo hy
       by_cases hm : y = -1
       ·have HI2 : Hid (incC n l1 g = l1) := Lib.hid (by rw [HI.out, if_pos hm])
        subst hm
        go_wp2
        go_roundw
        case rel => exact ⟨k + 1, by go_num, by omega, Lib.hid (by rw [HS1.out, HI2.out]; exact HOo.out), Lib.hid HCo.out⟩
        case measure => simp [intOf]; omega
       ·have HI2 : Hid (incC n l1 g = l1.set ke (y + 1)) := Lib.hid (by rw [HI.out, if_neg hm])
        have em : (y != -1) = true := by simp [hm]
        have HOz : Hid (Kd.R (Kd.int .i64) 3 (wo.setCell ⟨gs, ke, none⟩ (.int .i64 (y + 1))) (w.heap.size + 1) (fun _ => True) (.slice (some ⟨gs, 0, none⟩) N cc) (l1.set ke (y + 1))) := Lib.hid (rowI_set HOo.out ke (y + 1))
        have HCz : Hid (Chg gs (gs + 1) w5 (wo.setCell ⟨gs, ke, none⟩ (.int .i64 (y + 1)))) := Lib.hid (HCo.out.trans (chg_one (grown_set wo gs ke _)))
        go_wp2
        go_roundw
        case rel => exact ⟨k + 1, by go_num, by omega, Lib.hid (by rw [HS1.out, HI2.out]; exact HOz.out), Lib.hid HCz.out⟩
        case measure => simp [intOf]; omega
      ·have HI : Hid (incC n l1 g = l1) := Lib.hid (by unfold incC incB; rw [HEI.out, HEA.out, HNN.out]; simp [h0])
       go_wp2
       go_roundw
       case rel => exact ⟨k + 1, by go_num, by omega, Lib.hid (by rw [HS1.out, HI.out]; exact HOn.out), Lib.hid HCn.out⟩
       case measure => simp [intOf]; omega
   ·obtain rfl : k = (allGrants n).length := by omega
    have HF := Lib.hid (csTo_all OK.out)
    go_wp2
    go_ret
    exact ⟨⟨_, rfl, Kd.R_lower (by rw [← HF.out]; exact HOk.out) (by omega)⟩, HBk.out⟩

end Go.Proofs.YtmkbmddgkdoaiaaGreat
namespace Go.Proofs.YtmkbmddgkdoaiaaGreat
open Go.ChangeShapes Go.WideShapes Go.ChangeAt Go.RowKit Go.Proofs.YtmkbmddgkdoaiaaGreatW.PrintWords
open NoC
theorem len1 {α : Type} {l : List α} (h : l.length = 1) : ∃ a, l = [a] := by match l, h with | [a], _ => exact ⟨a, rfl⟩
theorem len2 {α : Type} {l : List α} (h : l.length = 2) : ∃ a b, l = [a, b] := by match l, h with | [a, b], _ => exact ⟨a, b, rfl⟩
theorem len3 {α : Type} {l : List α} (h : l.length = 3) : ∃ a b c, l = [a, b, c] := by match l, h with | [a, b, c], _ => exact ⟨a, b, c, rfl⟩
theorem len5 {α : Type} {l : List α} (h : l.length = 5) : ∃ a b c d e, l = [a, b, c, d, e] := by match l, h with | [a, b, c, d, e], _ => exact ⟨a, b, c, d, e, rfl⟩
section
variable {H : Type} {enc : TypeId × Value → H} {W : World} {base : Nat} {spare : Nat → Bool} {held : Bool} {fuel : Nat} {cs : List Value} {x : DataW H × List MemPlace}
def Light (t : TypeId) (d : DataW H) : Prop := ∀ n ∈ d.weights Tryz.prog t, n ≤ reachBytes
theorem light_arg {ts : List TypeId} {ds : List (DataW H)} (h : (DataW.weightsEach Tryz.prog ts ds).all (· ≤ reachBytes) = true) {j : Nat} {t : TypeId} {d : DataW H} (ht : ts[j]? = some t) (hd : ds[j]? = some d) : Light t d :=
  fun n hn => by simpa using List.all_eq_true.1 h n (DataW.weights_mem_each ht hd n hn)
theorem light_field {t : TypeId} {fs : Array Field} {parts : List (DataW H)} (hu : Tryz.prog.underlying t = some (.struct fs)) (h : Light t (.agg parts)) {i : Nat} {f : Field} {d : DataW H} (hf : fs[i]? = some f) (hd : parts[i]? = some d) : Light f.type d :=
  fun n hn => h n (by
    unfold DataW.weights
    rw [hu]
    exact DataW.weights_mem_each (j := i) (by simp [hf]) hd n hn)
theorem op_int (h : DataW.trod enc Tryz.prog W base spare held fuel 3 cs = some x) : ∃ n, cs = [.int .i64 n] := by
  obtain ⟨n, h, _⟩ := DataW.trod_int Tryz.underlying3 h
  exact ⟨n, h⟩
theorem op_ints (h : DataW.trod enc Tryz.prog W base spare held fuel 24 cs = some x) (hl : Light 24 x.1) :
    ∃ A c, ∃ l : List Int, cs = [.slice A l.length c] ∧ Kd.C (Kd.int .i64) W A l.length l ∧ l.length ≤ 140737488355328 := by
  rcases open_ints Tryz.underlying24 Tryz.underlying3 (by kernel_rfl) h with ⟨rfl, _⟩ | ⟨a, len, cap, zs, rfl, _, hle, hm, hz, hx, hc, _⟩
  · exact ⟨none, 0, [], rfl, ⟨rfl, by decide, fun h => absurd h (by decide)⟩, by decide⟩
  · have hlen : len ≤ zs.length := by rw [hz]; split <;> omega
    have e : (zs.take len).length = len := by rw [List.length_take, Nat.min_eq_left hlen]
    have hb : len * 8 ≤ 140737488351232 := by
      subst hx
      have z := hl _ (by unfold DataW.weights; rw [show Tryz.prog.underlying 24 = _ from Tryz.underlying24]; exact List.mem_cons_self)
      rw [show Tryz.prog.bytesOf 3 = 8 by kernel_rfl] at z
      have hr : reachBytes = 140737488351232 := by decide
      have h1 : (lits (H := H) .i64 (zs.take len)).length = len := by simp [lits, hlen]
      rw [h1] at z
      omega
    refine ⟨some a, cap, zs.take len, by rw [e], ⟨rfl, by rw [e]; omega, fun _ => ⟨a, rfl, ?_⟩⟩, by rw [e]; omega⟩
    intro j p hj
    refine ⟨[.int .i64 p], rfl, rfl, ?_⟩
    intro i u hi
    obtain ⟨rfl, rfl⟩ : i = 0 ∧ u = .int .i64 p := by
      cases i with
      | zero => simp at hi; exact ⟨rfl, hi.symm⟩
      | succ i => simp at hi
    have hj2 := List.getElem?_eq_some_iff.1 hj
    obtain ⟨hj3, hj4⟩ := hj2
    have hj5 : j < zs.length := by omega
    have := hc j hj5
    rw [show j * (Kd.int .i64).sz + 0 = j by show j * 1 + 0 = j; omega, this]
    rw [List.getElem_take] at hj4
    simp [hj5, hj4]
theorem op_fields {t : TypeId} {fs : Array Field} (hu : Tryz.prog.underlying t = some (.struct fs)) (h : DataW.trod enc Tryz.prog W base spare held fuel t cs = some x) (hl : Light t x.1) :
    cs.length = Tryz.prog.cellsOf t ∧ ∀ (i : Nat) (f : Field), fs[i]? = some f → ∃ n y, DataW.trod enc Tryz.prog W base spare held n f.type ((cs.drop f.offset).take (Tryz.prog.cellsOf f.type)) = some y ∧ Light f.type y.1 := by
  obtain ⟨xs, n, _, rfl, hlen, hxs, hf⟩ := DataW.trod_struct hu h
  refine ⟨hlen, fun i f hi => ?_⟩
  have hlt : i < xs.length := by rw [hxs]; exact (Array.getElem?_eq_some_iff.1 hi).1
  have e := hf i f hi
  rw [List.getElem?_eq_getElem hlt] at e
  exact ⟨n, xs[i], e, light_field hu hl hi (by simp [hlt])⟩
theorem op_grid (h : DataW.trod enc Tryz.prog W base spare held fuel 23 cs = some x) (hl : Light 23 x.1) :
    ∃ g : Grid, cs = [.int .i64 g.w, .int .i64 g.h] := by
  obtain ⟨hlen, hf⟩ := op_fields Tryz.underlying23 h hl
  rw [show Tryz.prog.cellsOf 23 = 2 by kernel_rfl] at hlen
  obtain ⟨a0, a1, rfl⟩ : ∃ a0 a1, cs = [a0, a1] := len2 hlen
  obtain ⟨n0, y0, h0, l0⟩ := hf 0 _ rfl
  simp only [List.getElem_toArray, List.getElem_cons_zero, List.getElem_cons_succ] at h0 l0
  rw [show Tryz.prog.cellsOf 3 = 1 by kernel_rfl] at h0
  obtain ⟨i0, e0⟩ := op_int h0
  simp at e0
  obtain rfl := e0
  obtain ⟨n1, y1, h1, l1⟩ := hf 1 _ rfl
  simp only [List.getElem_toArray, List.getElem_cons_zero, List.getElem_cons_succ] at h1 l1
  rw [show Tryz.prog.cellsOf 3 = 1 by kernel_rfl] at h1
  obtain ⟨i1, e1⟩ := op_int h1
  simp at e1
  obtain rfl := e1
  exact ⟨⟨i0, i1⟩, rfl⟩
theorem op_mesh (h : DataW.trod enc Tryz.prog W base spare held fuel 26 cs = some x) (hl : Light 26 x.1) :
    ∃ (m : Mesh) (A : Option Addr) (c : Nat), cs = [.int .i64 m.g.w, .int .i64 m.g.h, .slice A m.br.length c] ∧ Kd.C (Kd.int .i64) W A m.br.length m.br ∧ m.br.length ≤ 140737488355328 := by
  obtain ⟨hlen, hf⟩ := op_fields Tryz.underlying26 h hl
  rw [show Tryz.prog.cellsOf 26 = 3 by kernel_rfl] at hlen
  obtain ⟨a0, a1, a2, rfl⟩ : ∃ a0 a1 a2, cs = [a0, a1, a2] := len3 hlen
  obtain ⟨n0, y0, h0, l0⟩ := hf 0 _ rfl
  simp only [List.getElem_toArray, List.getElem_cons_zero, List.getElem_cons_succ] at h0 l0
  rw [show Tryz.prog.cellsOf 23 = 2 by kernel_rfl] at h0
  obtain ⟨g0, e0⟩ := op_grid h0 l0
  simp at e0
  obtain ⟨rfl, rfl⟩ := e0
  obtain ⟨n1, y1, h1, l1⟩ := hf 1 _ rfl
  simp only [List.getElem_toArray, List.getElem_cons_zero, List.getElem_cons_succ] at h1 l1
  rw [show Tryz.prog.cellsOf 24 = 1 by kernel_rfl] at h1
  obtain ⟨A1, c1, r1, e1, hr1, hn1⟩ := op_ints h1 l1
  simp at e1
  obtain rfl := e1
  exact ⟨⟨g0, r1⟩, A1, c1, rfl, hr1, hn1⟩
theorem op_table (h : DataW.trod enc Tryz.prog W base spare held fuel 28 cs = some x) (hl : Light 28 x.1) :
    ∃ A c, ∃ l : List Int, cs = [.slice A l.length c] ∧ Kd.C (Kd.int .i64) W A l.length l ∧ l.length ≤ 140737488355328 := by
  obtain ⟨hlen, hf⟩ := op_fields Tryz.underlying28 h hl
  rw [show Tryz.prog.cellsOf 28 = 1 by kernel_rfl] at hlen
  obtain ⟨a0, rfl⟩ : ∃ a0, cs = [a0] := len1 hlen
  obtain ⟨n0, y0, h0, l0⟩ := hf 0 _ rfl
  simp only [List.getElem_toArray, List.getElem_cons_zero, List.getElem_cons_succ] at h0 l0
  rw [show Tryz.prog.cellsOf 24 = 1 by kernel_rfl] at h0
  obtain ⟨A0, c0, r0, e0, hr0, hn0⟩ := op_ints h0 l0
  simp at e0
  obtain rfl := e0
  exact ⟨A0, c0, r0, rfl, hr0, hn0⟩
theorem op_classes (h : DataW.trod enc Tryz.prog W base spare held fuel 30 cs = some x) (hl : Light 30 x.1) :
    ∃ A c, ∃ l : List Int, ∃ B d, ∃ k : List Int, cs = [.slice A l.length c, .slice B k.length d] ∧ Kd.C (Kd.int .i64) W A l.length l ∧ l.length ≤ 140737488355328 ∧ Kd.C (Kd.int .i64) W B k.length k ∧ k.length ≤ 140737488355328 := by
  obtain ⟨hlen, hf⟩ := op_fields Tryz.underlying30 h hl
  rw [show Tryz.prog.cellsOf 30 = 2 by kernel_rfl] at hlen
  obtain ⟨a0, a1, rfl⟩ : ∃ a0 a1, cs = [a0, a1] := len2 hlen
  obtain ⟨n0, y0, h0, l0⟩ := hf 0 _ rfl
  simp only [List.getElem_toArray, List.getElem_cons_zero, List.getElem_cons_succ] at h0 l0
  rw [show Tryz.prog.cellsOf 28 = 1 by kernel_rfl] at h0
  obtain ⟨A0, c0, r0, e0, hr0, hn0⟩ := op_table h0 l0
  simp at e0
  obtain rfl := e0
  obtain ⟨n1, y1, h1, l1⟩ := hf 1 _ rfl
  simp only [List.getElem_toArray, List.getElem_cons_zero, List.getElem_cons_succ] at h1 l1
  rw [show Tryz.prog.cellsOf 28 = 1 by kernel_rfl] at h1
  obtain ⟨A1, c1, r1, e1, hr1, hn1⟩ := op_table h1 l1
  simp at e1
  obtain rfl := e1
  exact ⟨A0, c0, r0, A1, c1, r1, rfl, hr0, hn0, hr1, hn1⟩
end
theorem build_list {α : Type} {Q : Nat → α → Prop} : ∀ n : Nat, (∀ i, i < n → ∃ p, Q i p) → ∃ l : List α, l.length = n ∧ ∀ i p, l[i]? = some p → Q i p := by
  intro n
  induction n with
  | zero => intro _; exact ⟨[], rfl, fun i p h => by simp at h⟩
  | succ n ih =>
    intro h
    obtain ⟨l, hl, hq⟩ := ih (fun i hi => h i (by omega))
    obtain ⟨p, hp⟩ := h n (by omega)
    refine ⟨l ++ [p], by simp [hl], fun i q hi => ?_⟩
    by_cases hlt : i < n
    · rw [List.getElem?_append_left (by omega)] at hi
      exact hq i q hi
    · have hlen := (List.getElem?_eq_some_iff.1 hi).1
      have : i = n := by simp at hlen; omega
      subst this
      rw [List.getElem?_append_right (by omega), hl, Nat.sub_self] at hi
      simp at hi
      subst hi
      exact hp
section
variable {H : Type} {enc : TypeId × Value → H} {W : World} {base : Nat} {spare : Nat → Bool} {held : Bool} {fuel : Nat} {cs : List Value} {x : DataW H × List MemPlace}
theorem op_fields0 {t : TypeId} {fs : Array Field} (hu : Tryz.prog.underlying t = some (.struct fs)) (h : DataW.trod enc Tryz.prog W base spare held fuel t cs = some x) :
    cs.length = Tryz.prog.cellsOf t ∧ ∀ (i : Nat) (f : Field), fs[i]? = some f → ∃ n y, DataW.trod enc Tryz.prog W base spare held n f.type ((cs.drop f.offset).take (Tryz.prog.cellsOf f.type)) = some y := by
  obtain ⟨xs, n, _, rfl, hlen, hxs, hf⟩ := DataW.trod_struct hu h
  refine ⟨hlen, fun i f hi => ?_⟩
  have hlt : i < xs.length := by rw [hxs]; exact (Array.getElem?_eq_some_iff.1 hi).1
  have e := hf i f hi
  rw [List.getElem?_eq_getElem hlt] at e
  exact ⟨n, xs[i], e⟩
end
theorem szN_says {n : Nat} {left : Int} (h1 : left ≤ 2097152) (h : 0 ≤ szN n left) : n ≤ 2097152 := by
  unfold szN at h
  split at h <;> omega
theorem szFlitS_any (l : List Flit) (left : Int) (A : Option Addr) (c : Nat) (w : World) (hl : l.length ≤ 9223372036854775807) (h0 : -1 ≤ left) (h1 : left ≤ 2097152) :
    Calls Tryz.prog 77 #[.slice A l.length c, .int .i64 left] w fun e w' => e = .returned (.int .i64 (szN l.length left)) ∧ w = w' := by
  go_enter Tryz.func77, Tryz.ntmps77
  by_cases h : left - l.length < 0
  · go_wp2
    go_ret
    exact ⟨ret_int (by simp [szN]; omega), rfl⟩
  · go_wp2
    go_ret
    exact ⟨ret_int (by simp [szN]; omega), rfl⟩
theorem szN_le {n : Nat} {left : Int} (h0 : -1 ≤ left) : szN n left ≤ left := by
  unfold szN
  split <;> omega
theorem szN_fits {n : Nat} {left : Int} (h : 0 ≤ szN n left) : (n : Int) ≤ left := by
  unfold szN at h
  split at h <;> omega
def Sz (left : Int) (p : Prop) (w w' : World) (e : Ending) : Prop := ∃ r : Int, e = .returned (.int .i64 r) ∧ -1 ≤ r ∧ r ≤ left ∧ Hid (0 ≤ r → p) ∧ Below w.heap.size w w'
theorem laws_szMesh' (m : Mesh) (left : Int) (A : Option Addr) (c : Nat) (w : World) (hl : m.br.length ≤ 140737488355328) (h0 : -1 ≤ left) (h1 : left ≤ 2097152) :
    Calls Tryz.prog 20 #[.agg #[.int .i64 m.g.w, .int .i64 m.g.h, .slice A m.br.length c], .int .i64 left] w fun e w' => Sz left (m.br.length ≤ 2097152) w w' e :=
  (laws_szMesh m left A c w hl h0 h1).mono fun e w' ⟨he, hb⟩ => ⟨_, he, (szN_range h0 h1).1, szN_le h0, Lib.hid (szN_says h1), hb⟩
theorem laws_szClasses' (pa pb : List Int) (left : Int) (A B : Option Addr) (c d : Nat) (w : World) (hl : pa.length ≤ 140737488355328) (hm : pb.length ≤ 140737488355328) (h0 : -1 ≤ left) (h1 : left ≤ 2097152) :
    Calls Tryz.prog 21 #[.agg #[.slice A pa.length c, .slice B pb.length d], .int .i64 left] w fun e w' => Sz left (pa.length ≤ 2097152 ∧ pb.length ≤ 2097152) w w' e :=
  (laws_szClasses pa pb left A B c d w hl hm h0 h1).mono fun e w' ⟨he, hb⟩ => by
    have r1 := szN_range (n := pa.length) h0 h1
    have r2 := szN_range (n := pb.length) r1.1 r1.2
    have s1 := szN_le (n := pa.length) h0
    have s2 := szN_le (n := pb.length) r1.1
    refine ⟨_, he, ?_, ?_, Lib.hid ?_, hb⟩
    · unfold szClsI; split <;> omega
    · unfold szClsI; split <;> omega
    · unfold szClsI
      split
      · omega
      · intro h
        exact ⟨szN_says h1 (by omega), szN_says r1.2 h⟩
theorem laws_szIntS' (l : List Int) (left : Int) (A : Option Addr) (c : Nat) (w : World) (hl : l.length ≤ 140737488355328) (h0 : -1 ≤ left) (h1 : left ≤ 2097152) :
    Calls Tryz.prog 39 #[.slice A l.length c, .int .i64 left] w fun e w' => Sz left (l.length ≤ 2097152) w w' e :=
  (laws_szIntS l left A c w hl h0 h1).mono fun e w' ⟨he, hw⟩ => ⟨_, he, (szN_range h0 h1).1, szN_le h0, Lib.hid (szN_says h1), bw_self hw⟩
theorem C_max {α : Type} {d : Kd α} {w : World} {A : Option Addr} {n : Nat} {l : List α} (h : d.C w A n l) : n ≤ 9223372036854775807 := h.2.1
set_option maxHeartbeats 1000000 in
theorem laws_szFlitSS (l : List (List Flit)) (left : Int) (A : Option Addr) (c : Nat) (w : World) (hr : (kB 121).C w A l.length l) (h0 : -1 ≤ left) (h1 : left ≤ 2097152) :
    Calls Tryz.prog 38 #[.slice A l.length c, .int .i64 left] w fun e w' => Sz left (l.length ≤ 2097152 ∧ (∀ x ∈ l, x.length ≤ 2097152) ∧ ∀ x ∈ l, (x.length : Int) ≤ left) w w' e := by
  have hmax := C_max hr
  go_enter Tryz.func38, Tryz.ntmps38
  by_cases h : left - l.length < 0
  · go_wp2
    go_ret
    exact ⟨-1, rfl, by omega, by omega, Lib.hid (fun h => absurd h (by omega)), bel⟩
  · go_wp2
    go_loopw [5, 1] (fun i r wr => ∃ (k : Nat) (x : Int), i = .int .i64 k ∧ r = .int .i64 x ∧ k ≤ l.length ∧ 0 ≤ x ∧ x ≤ left ∧ Hid (∀ j : Nat, j < k → ((rl l j).length : Int) ≤ left) ∧ wr = w) (fun i _ _ => l.length - (intOf i).toNat)
    case atStart => exact ⟨0, _, rfl, rfl, Nat.zero_le _, by omega, by omega, Lib.hid fun j h => absurd h (Nat.not_lt_zero _), rfl⟩
    case round =>
      obtain ⟨k, x, rfl, rfl, hk, x0, x1, HA, rfl⟩ := hrel
      by_cases hlt : k < l.length
      · obtain ⟨b, off, rfl, hb, Ai, ci, p0, hle, hCi⟩ := rdB_at hr k hlt
        have hmi := C_max hCi
        have y1 := szN_range (n := (rl l k).length) (left := x) (by omega) (by omega)
        by_cases hn : szN (rl l k).length x < 0
        · go_wp2_with (go_at_call 77; refine (szFlitS_any (rl l k) x Ai ci _ hmi (by omega) (by omega)).mono ?_; rintro e w' ⟨rfl, rfl⟩)
          go_ret
          exact ⟨-1, rfl, by omega, by omega, Lib.hid (fun h => absurd h (by omega)), bel⟩
        · have hs := szN_fits (show 0 ≤ szN (rl l k).length x by omega)
          have hle2 := szN_le (n := (rl l k).length) (left := x) (by omega)
          have HS2 : Hid (∀ j : Nat, j < k + 1 → ((rl l j).length : Int) ≤ left) := Lib.hid (fun j hj => by
            rcases Nat.lt_or_ge j k with h1 | h1
            · exact HA.out j h1
            · obtain rfl : j = k := by omega
              omega)
          go_wp2_with (go_at_call 77; refine (szFlitS_any (rl l k) x Ai ci _ hmi (by omega) (by omega)).mono ?_; rintro e w' ⟨rfl, rfl⟩)
          go_roundw
          case rel => exact ⟨k + 1, _, by go_num, rfl, by omega, by omega, by omega, Lib.hid HS2.out, by trivial⟩
          case measure => simp [intOf]; omega
      · go_wp2
        go_ret
        have hall : ∀ y ∈ l, (y.length : Int) ≤ left := fun y hy => by
          obtain ⟨j, hj, rfl⟩ := List.getElem_of_mem hy
          have := HA.out j (by omega)
          simpa [rl, List.getD_eq_getElem?_getD, hj] using this
        exact ⟨x, rfl, by omega, x1, Lib.hid (fun _ => ⟨by omega, fun y hy => by have := hall y hy; omega, hall⟩), bel⟩
structure NetC (w : World) (n : Net) (q : NA) : Prop where
  br : Kd.C (Kd.int .i64) w q.a1 n.mesh.br.length n.mesh.br
  pa : Kd.C (Kd.int .i64) w q.a2 n.pa.length n.pa
  pb : Kd.C (Kd.int .i64) w q.a3 n.pb.length n.pb
  bufs : (kB 121).C w q.a4 n.bufs.length n.bufs
  owners : Kd.C (Kd.int .i64) w q.a5 n.owners.length n.owners
  turns : Kd.C (Kd.int .i64) w q.a6 n.turns.length n.turns
  srcs : (kB 121).C w q.a7 n.srcs.length n.srcs
  arrs : (kB 121).C w q.a8 n.arrs.length n.arrs
  h1 : n.mesh.br.length ≤ 140737488355328
  h2 : n.pa.length ≤ 140737488355328
  h3 : n.pb.length ≤ 140737488355328
  h5 : n.owners.length ≤ 140737488355328
  h6 : n.turns.length ≤ 140737488355328
theorem NetC.below {w w1 : World} {n : Net} {q : NA} (h : NetC w n q) (hb : Below w.heap.size w w1) : NetC w1 n q :=
  ⟨Kd.C_below h.br hb, Kd.C_below h.pa hb, Kd.C_below h.pb hb, Kd.C_below h.bufs hb, Kd.C_below h.owners hb, Kd.C_below h.turns hb, Kd.C_below h.srcs hb, Kd.C_below h.arrs hb, h.h1, h.h2, h.h3, h.h5, h.h6⟩
structure NetB (n : Net) : Prop where
  h1 : n.mesh.br.length ≤ 2097152
  h2 : n.pa.length ≤ 2097152
  h3 : n.pb.length ≤ 2097152
  h4 : n.bufs.length ≤ 2097152
  h5 : n.owners.length ≤ 2097152
  h6 : n.turns.length ≤ 2097152
  h7 : n.srcs.length ≤ 2097152
  h8 : n.arrs.length ≤ 2097152
  h9 : ∀ l ∈ n.bufs, l.length ≤ 2097152
  h10 : ∀ l ∈ n.srcs, l.length ≤ 2097152
  h11 : ∀ l ∈ n.arrs, l.length ≤ 2097152
theorem NetC.bound {w : World} {n : Net} {q : NA} (h : NetC w n q) (b : NetB n) : NetR 121 w n q :=
  ⟨h.br, h.pa, h.pb, h.bufs, h.owners, h.turns, h.srcs, h.arrs, b.h1, b.h2, b.h3, b.h4, b.h5, b.h6, b.h7, b.h8, b.h9, b.h10, b.h11⟩
set_option maxHeartbeats 4000000 in
set_option maxRecDepth 100000 in
theorem laws_szNet (n : Net) (q : NA) (left : Int) (w : World) (hr : NetC w n q) (h0 : -1 ≤ left) (h1 : left ≤ 2097152) :
    Calls Tryz.prog 9 #[.agg (netCells n q), .int .i64 left] w fun e w' => Sz left (NetB n ∧ ∀ l ∈ n.arrs, (l.length : Int) ≤ left) w w' e := by
  have H := Lib.hid hr
  clear hr
  unfold netCells
  go_enter Tryz.func9, Tryz.ntmps9
  go_wp2_with fail
  refine (laws_szMesh' n.mesh left q.a1 q.c1 _ H.out.h1 h0 h1).mono ?_
  rintro e w1 ⟨r1, rfl, x1, y1, K1, hb1⟩
  obtain ⟨hc1, hf1, hz1⟩ := bcell hb1; (try simp only [szs] at hz1); have hb2 := far2; obtain ⟨hc2, hf2, hz2⟩ := bcell hb2; (try simp only [szs] at hz2); try (first | obtain ⟨hy1, hy2, hy3, hy4⟩ := lts4 hz2 | obtain ⟨hy1, hy2, hy3⟩ := lts3 hz2 | obtain ⟨hy1, hy2⟩ := lts2 hz2 | have hy1 := lts1 hz2); have hb9 := hb1
  by_cases n1 : r1 < 0
  · go_wp2
    go_ret
    exact ⟨-1, rfl, by omega, by omega, Lib.hid (fun h => absurd h (by omega)), bel⟩
  go_wp2_with fail
  refine (laws_szClasses' n.pa n.pb r1 q.a2 q.a3 q.c2 q.c3 _ H.out.h2 H.out.h3 x1 (by omega)).mono ?_
  rintro e w2 ⟨r2, rfl, x2, y2, K2, hb1⟩
  obtain ⟨hc1, hf1, hz1⟩ := bcell hb1; (try simp only [szs] at hz1); have hb2 := far2; obtain ⟨hc2, hf2, hz2⟩ := bcell hb2; (try simp only [szs] at hz2); try (first | obtain ⟨hy1, hy2, hy3, hy4⟩ := lts4 hz2 | obtain ⟨hy1, hy2, hy3⟩ := lts3 hz2 | obtain ⟨hy1, hy2⟩ := lts2 hz2 | have hy1 := lts1 hz2); have hb9 := hb1
  by_cases n2 : r2 < 0
  · go_wp2
    go_ret
    exact ⟨-1, rfl, by omega, by omega, Lib.hid (fun h => absurd h (by omega)), bel⟩
  go_wp2_with fail
  refine (laws_szFlitSS n.bufs r2 q.a4 q.c4 _ (by exact Kd.C_below H.out.bufs bel) x2 (by omega)).mono ?_
  rintro e w3 ⟨r3, rfl, x3, y3, K3, hb1⟩
  obtain ⟨hc1, hf1, hz1⟩ := bcell hb1; (try simp only [szs] at hz1); have hb2 := far2; obtain ⟨hc2, hf2, hz2⟩ := bcell hb2; (try simp only [szs] at hz2); try (first | obtain ⟨hy1, hy2, hy3, hy4⟩ := lts4 hz2 | obtain ⟨hy1, hy2, hy3⟩ := lts3 hz2 | obtain ⟨hy1, hy2⟩ := lts2 hz2 | have hy1 := lts1 hz2); have hb9 := hb1
  by_cases n3 : r3 < 0
  · go_wp2
    go_ret
    exact ⟨-1, rfl, by omega, by omega, Lib.hid (fun h => absurd h (by omega)), bel⟩
  go_wp2_with fail
  refine (laws_szIntS' n.owners r3 q.a5 q.c5 _ H.out.h5 x3 (by omega)).mono ?_
  rintro e w4 ⟨r4, rfl, x4, y4, K4, hb1⟩
  obtain ⟨hc1, hf1, hz1⟩ := bcell hb1; (try simp only [szs] at hz1); have hb2 := far2; obtain ⟨hc2, hf2, hz2⟩ := bcell hb2; (try simp only [szs] at hz2); try (first | obtain ⟨hy1, hy2, hy3, hy4⟩ := lts4 hz2 | obtain ⟨hy1, hy2, hy3⟩ := lts3 hz2 | obtain ⟨hy1, hy2⟩ := lts2 hz2 | have hy1 := lts1 hz2); have hb9 := hb1
  by_cases n4 : r4 < 0
  · go_wp2
    go_ret
    exact ⟨-1, rfl, by omega, by omega, Lib.hid (fun h => absurd h (by omega)), bel⟩
  go_wp2_with fail
  refine (laws_szIntS' n.turns r4 q.a6 q.c6 _ H.out.h6 x4 (by omega)).mono ?_
  rintro e w5 ⟨r5, rfl, x5, y5, K5, hb1⟩
  obtain ⟨hc1, hf1, hz1⟩ := bcell hb1; (try simp only [szs] at hz1); have hb2 := far2; obtain ⟨hc2, hf2, hz2⟩ := bcell hb2; (try simp only [szs] at hz2); try (first | obtain ⟨hy1, hy2, hy3, hy4⟩ := lts4 hz2 | obtain ⟨hy1, hy2, hy3⟩ := lts3 hz2 | obtain ⟨hy1, hy2⟩ := lts2 hz2 | have hy1 := lts1 hz2); have hb9 := hb1
  by_cases n5 : r5 < 0
  · go_wp2
    go_ret
    exact ⟨-1, rfl, by omega, by omega, Lib.hid (fun h => absurd h (by omega)), bel⟩
  go_wp2_with fail
  refine (laws_szFlitSS n.srcs r5 q.a7 q.c7 _ (by exact Kd.C_below H.out.srcs bel) x5 (by omega)).mono ?_
  rintro e w6 ⟨r6, rfl, x6, y6, K6, hb1⟩
  obtain ⟨hc1, hf1, hz1⟩ := bcell hb1; (try simp only [szs] at hz1); have hb2 := far2; obtain ⟨hc2, hf2, hz2⟩ := bcell hb2; (try simp only [szs] at hz2); try (first | obtain ⟨hy1, hy2, hy3, hy4⟩ := lts4 hz2 | obtain ⟨hy1, hy2, hy3⟩ := lts3 hz2 | obtain ⟨hy1, hy2⟩ := lts2 hz2 | have hy1 := lts1 hz2); have hb9 := hb1
  by_cases n6 : r6 < 0
  · go_wp2
    go_ret
    exact ⟨-1, rfl, by omega, by omega, Lib.hid (fun h => absurd h (by omega)), bel⟩
  go_wp2_with fail
  refine (laws_szFlitSS n.arrs r6 q.a8 q.c8 _ (by exact Kd.C_below H.out.arrs bel) x6 (by omega)).mono ?_
  rintro e w7 ⟨r7, rfl, x7, y7, K7, hb1⟩
  obtain ⟨hc1, hf1, hz1⟩ := bcell hb1; (try simp only [szs] at hz1); have hb2 := far2; obtain ⟨hc2, hf2, hz2⟩ := bcell hb2; (try simp only [szs] at hz2); try (first | obtain ⟨hy1, hy2, hy3, hy4⟩ := lts4 hz2 | obtain ⟨hy1, hy2, hy3⟩ := lts3 hz2 | obtain ⟨hy1, hy2⟩ := lts2 hz2 | have hy1 := lts1 hz2); have hb9 := hb1
  by_cases n7 : r7 < 0
  · go_wp2
    go_ret
    exact ⟨-1, rfl, by omega, by omega, Lib.hid (fun h => absurd h (by omega)), bel⟩
  go_wp2
  go_ret
  exact ⟨r7, rfl, x7, by omega, Lib.hid (fun _ => ⟨⟨K1.out (by omega), (K2.out (by omega)).1, (K2.out (by omega)).2, (K3.out (by omega)).1, K4.out (by omega), K5.out (by omega), (K6.out (by omega)).1, (K7.out (by omega)).1, (K3.out (by omega)).2.1, (K6.out (by omega)).2.1, (K7.out (by omega)).2.1⟩, fun l hl => by have := (K7.out (by omega)).2.2 l hl; omega⟩), bel⟩
section
variable {H : Type} {enc : TypeId × Value → H} {W : World} {base : Nat} {spare : Nat → Bool} {held : Bool} {fuel : Nat} {cs : List Value} {x : DataW H × List MemPlace}
theorem op_bool (h : DataW.trod enc Tryz.prog W base spare held fuel 4 cs = some x) : ∃ b, cs = [.bool b] := by
  obtain ⟨b, h, _⟩ := DataW.trod_bool Tryz.underlying4 h
  exact ⟨b, h⟩
theorem op_flit0 (h : DataW.trod enc Tryz.prog W base spare held fuel 143 cs = some x) : ∃ p : Flit, cs = fCells p := by
  obtain ⟨hlen, hf⟩ := op_fields0 Tryz.underlying143 h
  rw [show Tryz.prog.cellsOf 143 = 5 by kernel_rfl] at hlen
  obtain ⟨a0, a1, a2, a3, a4, rfl⟩ : ∃ a0 a1 a2 a3 a4, cs = [a0, a1, a2, a3, a4] := len5 hlen
  obtain ⟨n0, y0, h0⟩ := hf 0 _ rfl
  obtain ⟨n1, y1, h1⟩ := hf 1 _ rfl
  obtain ⟨n2, y2, h2⟩ := hf 2 _ rfl
  obtain ⟨n3, y3, h3⟩ := hf 3 _ rfl
  obtain ⟨n4, y4, h4⟩ := hf 4 _ rfl
  simp only [List.getElem_toArray, List.getElem_cons_zero, List.getElem_cons_succ] at h0 h1 h2 h3 h4
  rw [show Tryz.prog.cellsOf 3 = 1 by kernel_rfl] at h0 h1 h2
  rw [show Tryz.prog.cellsOf 4 = 1 by kernel_rfl] at h3 h4
  obtain ⟨i0, e0⟩ := op_int h0
  obtain ⟨i1, e1⟩ := op_int h1
  obtain ⟨i2, e2⟩ := op_int h2
  obtain ⟨i3, e3⟩ := op_bool h3
  obtain ⟨i4, e4⟩ := op_bool h4
  simp at e0 e1 e2 e3 e4
  subst e0 e1 e2 e3 e4
  exact ⟨⟨i0, i1, i2, i3, i4⟩, rfl⟩
theorem op_rows0 {α : Type} {n : Nat} {en : α → List Value} {hl : ∀ x, (en x).length = n} {h1 : ∀ x, ∀ u ∈ en x, u.oneCell' = true} {t e : TypeId} (ht : Tryz.prog.underlying t = some (.slice e)) (hc : Tryz.prog.cellsOf e = n)
    (hel : ∀ {fuel : Nat} {cs : List Value} {x : DataW H × List MemPlace}, DataW.trod enc Tryz.prog W base spare held fuel e cs = some x → ∃ p, cs = en p)
    (h : DataW.trod enc Tryz.prog W base spare held fuel t cs = some x) :
    ∃ A c, ∃ l : List α, cs = [.slice A l.length c] ∧ l.length ≤ c ∧ (Kd.flat n en hl h1).C W A l.length l := by
  rcases DataW.trod_slice ht h with ⟨rfl, _⟩ | ⟨a, len, cap, elems, rest, k, _, rfl, hx, hb, hle, hm, hlen, hels, _, _⟩
  · exact ⟨none, 0, [], rfl, Nat.le_refl _, ⟨rfl, by simp, fun h => absurd h (by simp)⟩⟩
  · obtain ⟨l, hll, hq⟩ := build_list (Q := fun i p => W.cells? base (a.add (i * n)) n = some (en p)) len (fun i hi => by
      have e := hels i hi
      rw [List.getElem?_eq_getElem (by omega), Option.bind_eq_some_iff] at e
      obtain ⟨c', hc', hd⟩ := e
      obtain ⟨p, rfl⟩ := hel hd
      rw [hc] at hc'
      exact ⟨p, hc'⟩)
    subst hll
    refine ⟨some a, cap, l, rfl, hle, ⟨rfl, by simp only [maxLen] at hm; omega, fun _ => ⟨a, rfl, ?_⟩⟩⟩
    intro j p hj
    refine ⟨en p, hl p, rfl, fun i u hi => ?_⟩
    have h2 := hq j p hj
    have hin : i < n := by
      have := (List.getElem?_eq_some_iff.1 hi).1
      rwa [hl] at this
    have h3 := (World.cells?_some h2).2.2 i hin
    rw [add_add] at h3
    show W.cell? (a.add (j * n + i)) = some u
    rw [h3, hi]
theorem op_flits0 (h : DataW.trod enc Tryz.prog W base spare held fuel 104 cs = some x) : ∃ A c, ∃ l : List Flit, cs = [.slice A l.length c] ∧ l.length ≤ c ∧ kF.C W A l.length l :=
  op_rows0 Tryz.underlying104 (by kernel_rfl) (fun h => op_flit0 h) h
theorem op_flitss (h : DataW.trod enc Tryz.prog W base spare held fuel 31 cs = some x) : ∃ A c, ∃ l : List (List Flit), cs = [.slice A l.length c] ∧ (kB 121).C W A l.length l := by
  rcases DataW.trod_slice Tryz.underlying31 h with ⟨rfl, _⟩ | ⟨a, len, cap, elems, rest, k, _, rfl, hx, hb, hle, hm, hlen, hels, _, _⟩
  · exact ⟨none, 0, [], rfl, ⟨rfl, by simp, fun h => absurd h (by simp)⟩⟩
  · obtain ⟨l, hll, hq⟩ := build_list (Q := fun i (p : List Flit) => ∃ A c, W.cells? base (a.add (i * 1)) 1 = some [.slice A p.length c] ∧ p.length ≤ c ∧ kF.C W A p.length p) len (fun i hi => by
      have e := hels i hi
      rw [List.getElem?_eq_getElem (by omega), Option.bind_eq_some_iff] at e
      obtain ⟨c', hc', hd⟩ := e
      obtain ⟨A, c, p, rfl, hpc, hC⟩ := op_flits0 hd
      rw [show Tryz.prog.cellsOf 104 = 1 by kernel_rfl] at hc'
      exact ⟨p, A, c, hc', hpc, hC⟩)
    subst hll
    refine ⟨some a, cap, l, rfl, ⟨rfl, by simp only [maxLen] at hm; omega, fun _ => ⟨a, rfl, ?_⟩⟩⟩
    intro j p hj
    obtain ⟨A, c, h2, hpc, hC⟩ := hq j p hj
    refine ⟨[.slice A p.length c], rfl, ⟨A, c, rfl, hpc, hC⟩, fun i u hi => ?_⟩
    have hin : i < 1 := by
      have := (List.getElem?_eq_some_iff.1 hi).1
      simpa using this
    have h3 := (World.cells?_some h2).2.2 i hin
    rw [add_add] at h3
    show W.cell? (a.add (j * 1 + i)) = some u
    rw [h3, hi]
theorem len8 {α : Type} {l : List α} (h : l.length = 11) : ∃ a b c d e f g i j k m, l = [a, b, c, d, e, f, g, i, j, k, m] := by match l, h with | [a, b, c, d, e, f, g, i, j, k, m], _ => exact ⟨a, b, c, d, e, f, g, i, j, k, m, rfl⟩
set_option maxHeartbeats 1000000 in
/-- A network at a law's door. -/
theorem op_net (h : DataW.trod enc Tryz.prog W base spare held fuel 33 cs = some x) (hl : Light 33 x.1) : ∃ (n : Net) (q : NA), cs = (netCells n q).toList ∧ NetC W n q := by
  obtain ⟨hlen, hf⟩ := op_fields Tryz.underlying33 h hl
  rw [show Tryz.prog.cellsOf 33 = 11 by kernel_rfl] at hlen
  obtain ⟨a0, a1, a2, a3, a4, a5, a6, a7, a8, a9, a10, rfl⟩ := len8 hlen
  obtain ⟨n0, y0, h0, l0⟩ := hf 0 _ rfl
  simp only [List.getElem_toArray, List.getElem_cons_zero, List.getElem_cons_succ] at h0 l0
  rw [show Tryz.prog.cellsOf 26 = 3 by kernel_rfl] at h0
  obtain ⟨n1, y1, h1, l1⟩ := hf 1 _ rfl
  simp only [List.getElem_toArray, List.getElem_cons_zero, List.getElem_cons_succ] at h1 l1
  rw [show Tryz.prog.cellsOf 30 = 2 by kernel_rfl] at h1
  obtain ⟨n2, y2, h2, l2⟩ := hf 2 _ rfl
  simp only [List.getElem_toArray, List.getElem_cons_zero, List.getElem_cons_succ] at h2 l2
  rw [show Tryz.prog.cellsOf 31 = 1 by kernel_rfl] at h2
  obtain ⟨n3, y3, h3, l3⟩ := hf 3 _ rfl
  simp only [List.getElem_toArray, List.getElem_cons_zero, List.getElem_cons_succ] at h3 l3
  rw [show Tryz.prog.cellsOf 24 = 1 by kernel_rfl] at h3
  obtain ⟨n4, y4, h4, l4⟩ := hf 4 _ rfl
  simp only [List.getElem_toArray, List.getElem_cons_zero, List.getElem_cons_succ] at h4 l4
  rw [show Tryz.prog.cellsOf 24 = 1 by kernel_rfl] at h4
  obtain ⟨n5, y5, h5, l5⟩ := hf 5 _ rfl
  simp only [List.getElem_toArray, List.getElem_cons_zero, List.getElem_cons_succ] at h5 l5
  rw [show Tryz.prog.cellsOf 31 = 1 by kernel_rfl] at h5
  obtain ⟨n6, y6, h6, l6⟩ := hf 6 _ rfl
  simp only [List.getElem_toArray, List.getElem_cons_zero, List.getElem_cons_succ] at h6 l6
  rw [show Tryz.prog.cellsOf 31 = 1 by kernel_rfl] at h6
  obtain ⟨n7, y7, h7, l7⟩ := hf 7 _ rfl
  simp only [List.getElem_toArray, List.getElem_cons_zero, List.getElem_cons_succ] at h7 l7
  rw [show Tryz.prog.cellsOf 3 = 1 by kernel_rfl] at h7
  obtain ⟨m, A1, c1, e0, hr1, hn1⟩ := op_mesh h0 l0
  simp at e0
  obtain ⟨rfl, rfl, rfl⟩ := e0
  obtain ⟨A2, c2, pa, A3, c3, pb, e1, hr2, hn2, hr3, hn3⟩ := op_classes h1 l1
  simp at e1
  obtain ⟨rfl, rfl⟩ := e1
  obtain ⟨A4, c4, bufs, e2, hr4⟩ := op_flitss h2
  obtain ⟨A5, c5, owners, e3, hr5, hn5⟩ := op_ints h3 l3
  obtain ⟨A6, c6, turns, e4, hr6, hn6⟩ := op_ints h4 l4
  obtain ⟨A7, c7, srcs, e5, hr7⟩ := op_flitss h5
  obtain ⟨A8, c8, arrs, e6, hr8⟩ := op_flitss h6
  obtain ⟨tm, e7⟩ := op_int h7
  simp at e2 e3 e4 e5 e6 e7
  subst e2 e3 e4 e5 e6 e7
  exact ⟨⟨m, pa, pb, bufs, owners, turns, srcs, arrs, tm⟩, ⟨A1, A2, A3, A4, A5, A6, A7, A8, c1, c2, c3, c4, c5, c6, c7, c8⟩, rfl, ⟨hr1, hr2, hr3, hr4, hr5, hr6, hr7, hr8, hn1, hn2, hn3, hn5, hn6⟩⟩
end
end Go.Proofs.YtmkbmddgkdoaiaaGreat
