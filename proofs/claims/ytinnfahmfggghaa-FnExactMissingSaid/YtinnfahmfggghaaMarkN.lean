/- The laws' marks on flits, rows of rows and networks: what is written lies in the network's own stretch of blocks. -/
import Derived.Test.YtinnfahmfggghaaOB
import Derived.Test.YtinnfahmfggghaaMarkM
set_option linter.unusedVariables false
set_option linter.unusedSimpArgs false
namespace Go.Proofs.Ytinnfahmfggghaa
open Go.RowKit Go.Proofs.YtinnfahmfggghaaW.PrintWords
open NoC

def markQF (k : Int) (j : Nat) : Flit := ⟨k + 5 * j, k + 5 * j + 1, k + 5 * j + 1 + 1, (k + 5 * j + 1 + 1 + 1) % 3 == 0, (k + 5 * j + 1 + 1 + 1 + 1) % 3 == 0⟩
def markFl (k : Int) (n : Nat) : List Flit := (List.range n).map (markQF k)
theorem markFl_len (k : Int) (n : Nat) : (markFl k n).length = n := by simp [markFl]
theorem markFl_get (k : Int) (n j : Nat) (h : j < n) : rf (markFl k n) j = markQF k j := by
  simp [rf, markFl, List.getD_eq_getElem?_getD, h]
/-- Five cells of element k written, one after the other. -/
theorem rowFl_set {e base g m c : Nat} {w : World} {xs : List Flit} (h : kF.R e w base (fun _ => True) (.slice (some ⟨g, 0, none⟩) m c) xs) (k : Nat) (hk : k < m) (p : Flit) :
    kF.R e (((((w.setCell ⟨g, k * 5, none⟩ (.int .i64 p.pk)).setCell ⟨g, k * 5 + 1, none⟩ (.int .i64 p.dst)).setCell ⟨g, k * 5 + 2, none⟩ (.int .i64 p.cls)).setCell ⟨g, k * 5 + 3, none⟩ (.bool p.head)).setCell ⟨g, k * 5 + 4, none⟩ (.bool p.tail)) base (fun _ => True) (.slice (some ⟨g, 0, none⟩) m c) (xs.set k p) ∧
    w.grownBy (((((w.setCell ⟨g, k * 5, none⟩ (.int .i64 p.pk)).setCell ⟨g, k * 5 + 1, none⟩ (.int .i64 p.dst)).setCell ⟨g, k * 5 + 2, none⟩ (.int .i64 p.cls)).setCell ⟨g, k * 5 + 3, none⟩ (.bool p.head)).setCell ⟨g, k * 5 + 4, none⟩ (.bool p.tail)) (some g) := by
  have hc := rowF_cell z0 h k hk
  have := Kd.R_seg (d := kF) h (k : Int) (by omega) (by omega) (c := fCells (xs.getD k z0)) (seg := fCells p) (j := 0) (okp := fun _ => False) (x' := p) rfl (fun j u hu => hc.1 j u hu) (by show 0 + 5 ≤ 5; omega) rfl (fun _ h => h.elim)
  exact this

set_option maxHeartbeats 2000000 in
theorem laws_markFlitS (l : List Flit) (k : Int) (A : Option Addr) (c base : Nat) (w : World) (HO0 : kF.R 142 w base (fun _ => True) (.slice A l.length c) l) (hn : l.length ≤ 1048576) (k0 : 0 ≤ k) (k1 : k ≤ 100000000000000000) :
    Calls Try.prog 116 #[.slice A l.length c, .int .i64 k] w fun e w' => e = .returned (.int .i64 (k + 5 * l.length)) ∧ kF.R 142 w' base (fun _ => True) (.slice A l.length c) (markFl k l.length) ∧ w.grownBy w' (Value.slice A l.length c).ownBlock := by
  go_enter Try.func116, Try.ntmps116
  go_wp2
  go_loopw [1, 5] (fun v i wr => ∃ (j : Nat) (x : List Flit), i = .int .i64 j ∧ v = .int .i64 (k + 5 * j) ∧ j ≤ l.length ∧ Hid (x.length = l.length) ∧ Hid (∀ q : Nat, q < j → rf x q = markQF k q) ∧ kF.R 142 wr base (fun _ => True) (.slice A l.length c) x ∧ w.grownBy wr (Value.slice A l.length c).ownBlock) (fun _ i _ => l.length - (intOf i).toNat)
  case atStart => exact ⟨0, l, rfl, by simp, Nat.zero_le _, Lib.hid rfl, Lib.hid fun q h => absurd h (Nat.not_lt_zero _), HO0, World.grownBy.refl _ _⟩
  case round =>
    obtain ⟨j, x, rfl, rfl, hj, HL, HA, HO, HG⟩ := hrel
    by_cases hlt : j < l.length
    · obtain ⟨g, cap, hv, hgb, hgl, cells, HGC⟩ := Kd.R_form HO (by have := HL.out; omega)
      injection hv with hv1 hv2 hv3
      subst hv1
      subst hv3
      clear HGC hv2
      obtain ⟨hcc, hff⟩ := rowF_cell z0 HO j hlt
      have x0 : wr.cell? ⟨g, j * 5, none⟩ = some (.int .i64 (rf x j).pk) := hcc 0 _ rfl
      have x1 : wr.cell? ⟨g, j * 5 + 1, none⟩ = some (.int .i64 (rf x j).dst) := hcc 1 _ rfl
      have x2 : wr.cell? ⟨g, j * 5 + 2, none⟩ = some (.int .i64 (rf x j).cls) := hcc 2 _ rfl
      have x3 : wr.cell? ⟨g, j * 5 + 3, none⟩ = some (.bool (rf x j).head) := hcc 3 _ rfl
      have x4 : wr.cell? ⟨g, j * 5 + 4, none⟩ = some (.bool (rf x j).tail) := hcc 4 _ rfl
      have f0 : wr.frozen? ⟨g, j * 5, none⟩ = false := hff 0
      have f1 := hff 1
      have f2 := hff 2
      have f3 := hff 3
      have f4 := hff 4
      have HP := rowFl_set HO j hlt (markQF k j)
      have HS := Lib.hid HP
      clear HP hcc hff
      go_wp2
      go_roundw
      case rel => exact ⟨j + 1, x.set j (markQF k j), by go_num, by first | (push_cast; congr 1; omega) | (congr 1; push_cast; omega), by omega, Lib.hid (by rw [List.length_set]; exact HL.out), Lib.hid (upto (fun q hq => by rw [set_getF (by have := HL.out; omega) q (by have := HL.out; omega), if_neg (by omega)]; exact HA.out q hq) (by rw [set_getF (by have := HL.out; omega) j (by have := HL.out; omega), if_pos rfl])), HS.out.1, grown_trans HG HS.out.2⟩
      case measure => simp [intOf]; omega
    · go_wp2
      go_ret
      have e : x = markFl k l.length := same_getF (by rw [HL.out, markFl_len]) (fun q hq => by rw [markFl_len] at hq; rw [HA.out q (by omega), markFl_get _ _ _ hq])
      subst e
      exact ⟨ret_int (by rw [show j = l.length by omega]), HO, HG⟩
/-- One inner row was written in its place. -/
theorem OB.upd {w w1 : World} {lo hi : Nat} {v : Value} {l : List (List Flit)} {vs : List Value} (h : OB w lo hi v l vs) (k : Nat) (hk : k < l.length) (hg : w.grownBy w1 (vr vs k).ownBlock) {y : List Flit} (hy : RU kF 142 w1 lo hi (vr vs k) y) : OB w1 lo hi v (l.set k y) vs := by
  have hl := h.len
  obtain ⟨inner, hin⟩ := Kd.R_own (h.row k hk)
  refine ⟨?_, h.top, fun i hi' => ?_, fun i j hij hj => h.apart i j hij (by rwa [List.length_set] at hj)⟩
  · rw [List.length_set]
    exact h.own.kept hg (own_type_ne h.own hin (by decide))
  · rw [List.length_set] at hi'
    rw [set_getB hk i hi']
    by_cases e : k = i
    · subst e
      rw [if_pos rfl]
      exact hy
    · rw [if_neg e]
      obtain ⟨h0, inner', ho, hr⟩ := h.row i hi'
      exact ⟨h0, inner', ho.kept hg (h.apart' (fun h => e h.symm) hi' hk), hr⟩
def totTo (l : List (List Flit)) : Nat → Nat
  | 0 => 0
  | i + 1 => totTo l i + (rl l i).length
theorem totTo_le {l : List (List Flit)} (h : ∀ x ∈ l, x.length ≤ 1048576) : ∀ i, i ≤ l.length → totTo l i ≤ 1048576 * i := by
  intro i
  induction i with
  | zero => intro _; simp [totTo]
  | succ i ih =>
    intro hi
    have h1 := ih (by omega)
    have h2 := h _ (rl_mem (show i < l.length by omega))
    simp only [totTo]
    omega
set_option maxHeartbeats 2000000 in
theorem laws_markFlitSS (l : List (List Flit)) (vs : List Value) (k : Int) (A : Option Addr) (c lo hi : Nat) (w : World) (HO0 : OB w lo hi (.slice A l.length c) l vs) (hlo : lo ≤ hi) (hn : l.length ≤ 1048576) (hm : Hid (∀ x ∈ l, x.length ≤ 1048576)) (k0 : 0 ≤ k) (k1 : k ≤ 1000000000000000) :
    Calls Try.prog 54 #[.slice A l.length c, .int .i64 k] w fun e w' => e = .returned (.int .i64 (k + 5 * (totTo l l.length : Int))) ∧ (∃ x, OB w' lo hi (.slice A l.length c) x vs ∧ x.length = l.length ∧ ∀ i : Nat, i < l.length → rl x i = markFl (k + 5 * (totTo l i : Int)) (rl l i).length) ∧ Chg lo hi w w' := by
  go_enter Try.func54, Try.ntmps54
  go_wp2
  go_loopw [1, 5] (fun v i wr => ∃ (j : Nat) (x : List (List Flit)), i = .int .i64 j ∧ v = .int .i64 (k + 5 * (totTo l j : Int)) ∧ j ≤ l.length ∧ Hid (x.length = l.length) ∧ Hid ((∀ q : Nat, q < j → rl x q = markFl (k + 5 * (totTo l q : Int)) (rl l q).length) ∧ ∀ q : Nat, j ≤ q → rl x q = rl l q) ∧ OB wr lo hi (.slice A l.length c) x vs ∧ Chg lo hi w wr) (fun _ i _ => l.length - (intOf i).toNat)
  case atStart => exact ⟨0, l, rfl, by simp [totTo], Nat.zero_le _, Lib.hid rfl, Lib.hid ⟨fun q h => absurd h (Nat.not_lt_zero _), fun _ _ => rfl⟩, HO0, Chg.refl _ _ _⟩
  case round =>
    obtain ⟨j, x, rfl, rfl, hj, HL, HA, HO, HG⟩ := hrel
    have ht := totTo_le hm.out j hj
    by_cases hlt : j < l.length
    · have hxl : j < x.length := by have := HL.out; omega
      have hlj := hm.out _ (rl_mem hlt)
      have hrow := HO.row j hxl
      rw [HA.out.2 j (Nat.le_refl _)] at hrow
      obtain ⟨Aj, cj, hvj⟩ := Kd.R_slice hrow
      obtain ⟨g, cap, hv, hgb, hgh, hgl, hcap, cells, HGC⟩ := HO.form (by omega)
      rw [HL.out] at hv
      injection hv with hv1 hv2 hv3
      subst hv1
      subst hv3
      obtain ⟨hx9, hf9⟩ := HO.cell j hxl
      rw [hvj] at hx9
      have HOH := Lib.hid HO
      have hr2 := hrow
      rw [hvj] at hr2
      have HR := Lib.hid hr2
      have HV := Lib.hid hvj
      have hts : ((totTo l (j + 1) : Nat) : Int) = (totTo l j : Int) + ((rl l j).length : Int) := by simp [totTo]
      have HT := Lib.hid hts
      clear HGC hv2 HO hrow hr2 hvj hts hf9
      go_wp2_with (go_at_call 116; refine (laws_markFlitS (rl l j) _ Aj cj lo _ (RU.row HR.out) hlj (by omega) (by omega)).mono ?_; rintro e w1 ⟨rfl, HR1, hg1⟩)
      go_roundw
      case rel =>
        have hgg : wr.grownBy w1 (vr vs j).ownBlock := by rw [HV.out]; exact hg1
        have hw := HR.out.within
        refine ⟨j + 1, x.set j (markFl (k + 5 * (totTo l j : Int)) (rl l j).length), by go_num, by rw [HT.out]; congr 1; omega, by omega, Lib.hid (by rw [List.length_set]; exact HL.out), Lib.hid ⟨upto (fun q hq => by rw [set_getB hxl q (by omega), if_neg (by omega)]; exact HA.out.1 q hq) (by rw [set_getB hxl j hxl, if_pos rfl]), fun q hq => ?_⟩, HOH.out.upd j hxl hgg ?_, HG.trans (Chg.of_grown hg1 hw)⟩
        · by_cases hqx : q < x.length
          · rw [set_getB hxl q hqx, if_neg (by omega)]
            exact HA.out.2 q (by omega)
          · have e1 : rl (x.set j (markFl (k + 5 * (totTo l j : Int)) (rl l j).length)) q = [] := by simp [rl, List.getD_eq_getElem?_getD, hqx]
            have e2 : rl l q = [] := by
              have : ¬ q < l.length := by have := HL.out; omega
              simp [rl, List.getD_eq_getElem?_getD, this]
            rw [e1, e2]
        · rw [HV.out]
          obtain ⟨_, inner, ho, hrr⟩ := HR1
          exact ⟨fun q hq => (hw q hq).2, inner, ho, hrr⟩
      case measure => simp [intOf]; omega
    · go_wp2
      go_ret
      obtain rfl : j = l.length := by omega
      exact ⟨rfl, ⟨x, HO, HL.out, HA.out.1⟩, HG⟩
/-- A network of one's own: row i's blocks lie from a i on and below b i. -/
structure NetI (w : World) (a b : Nat → Nat) (n : Net) (q : NA) (v4 v7 v8 : List Value) : Prop where
  br : RU (Kd.int .i64) 3 w (a 0) (b 0) (.slice q.a1 n.mesh.br.length q.c1) n.mesh.br
  pa : RU (Kd.int .i64) 3 w (a 1) (b 1) (.slice q.a2 n.pa.length q.c2) n.pa
  pb : RU (Kd.int .i64) 3 w (a 1) (b 1) (.slice q.a3 n.pb.length q.c3) n.pb
  ap : Apart (.slice q.a3 n.pb.length q.c3) (.slice q.a2 n.pa.length q.c2)
  bufs : OB w (a 2) (b 2) (.slice q.a4 n.bufs.length q.c4) n.bufs v4
  owners : RU (Kd.int .i64) 3 w (a 3) (b 3) (.slice q.a5 n.owners.length q.c5) n.owners
  turns : RU (Kd.int .i64) 3 w (a 4) (b 4) (.slice q.a6 n.turns.length q.c6) n.turns
  srcs : OB w (a 5) (b 5) (.slice q.a7 n.srcs.length q.c7) n.srcs v7
  arrs : OB w (a 6) (b 6) (.slice q.a8 n.arrs.length q.c8) n.arrs v8
/-- The stretches lie from lo on and below hi, and no two of them meet. -/
structure Lay (lo hi : Nat) (a b : Nat → Nat) : Prop where
  inn : ∀ i, i < 7 → lo ≤ a i ∧ a i ≤ b i ∧ b i ≤ hi
  dis : ∀ i j, i < 7 → j < 7 → i ≠ j → b i ≤ a j ∨ b j ≤ a i
/-- A call hands back a network of its own. -/
def GotNI (w w' : World) (n : Net) (e : Ending) : Prop := ∃ q a b v4 v7 v8, e = .returned (.agg (netCells n q)) ∧ Lay w.heap.size w'.heap.size a b ∧ NetI w' a b n q v4 v7 v8
theorem NetI.reads {w : World} {a b : Nat → Nat} {n : Net} {q : NA} {v4 v7 v8 : List Value} {w0 : World} {q0 : NA} {e0 : Nat} (h : NetI w a b n q v4 v7 v8) (k : NetR e0 w0 n q0) : NetR 142 w n q :=
  ⟨h.br.reads.2.2, h.pa.reads.2.2, h.pb.reads.2.2, h.bufs.reads.2.2, h.owners.reads.2.2, h.turns.reads.2.2, h.srcs.reads.2.2, h.arrs.reads.2.2, k.h1, k.h2, k.h3, k.h4, k.h5, k.h6, k.h7, k.h8, k.h9, k.h10, k.h11⟩
theorem NetI.below {w w1 : World} {a b : Nat → Nat} {n : Net} {q : NA} {v4 v7 v8 : List Value} (h : NetI w a b n q v4 v7 v8) (hb : Below w.heap.size w w1) : NetI w1 a b n q v4 v7 v8 :=
  ⟨h.br.below hb, h.pa.below hb, h.pb.below hb, h.ap, h.bufs.below hb, h.owners.below hb, h.turns.below hb, h.srcs.below hb, h.arrs.below hb⟩
def seven (x0 x1 x2 x3 x4 x5 x6 : Nat) (i : Nat) : Nat := match i with | 0 => x0 | 1 => x1 | 2 => x2 | 3 => x3 | 4 => x4 | 5 => x5 | _ => x6
theorem lay_seq {t0 t1 t2 t3 t4 t5 t6 t7 : Nat} (h0 : t0 ≤ t1) (h1 : t1 ≤ t2) (h2 : t2 ≤ t3) (h3 : t3 ≤ t4) (h4 : t4 ≤ t5) (h5 : t5 ≤ t6) (h6 : t6 ≤ t7) {lo hi : Nat} (hl : lo ≤ t0) (hh : t7 ≤ hi) : Lay lo hi (seven t0 t1 t2 t3 t4 t5 t6) (seven t1 t2 t3 t4 t5 t6 t7) := by
  refine ⟨fun i hi => ?_, fun i j hi hj hne => ?_⟩
  · rcases (by omega : i = 0 ∨ i = 1 ∨ i = 2 ∨ i = 3 ∨ i = 4 ∨ i = 5 ∨ i = 6) with rfl | rfl | rfl | rfl | rfl | rfl | rfl <;> (simp only [seven]; omega)
  · rcases (by omega : i = 0 ∨ i = 1 ∨ i = 2 ∨ i = 3 ∨ i = 4 ∨ i = 5 ∨ i = 6) with rfl | rfl | rfl | rfl | rfl | rfl | rfl <;> rcases (by omega : j = 0 ∨ j = 1 ∨ j = 2 ∨ j = 3 ∨ j = 4 ∨ j = 5 ∨ j = 6) with rfl | rfl | rfl | rfl | rfl | rfl | rfl <;> first | exact absurd rfl hne | (simp only [seven]; omega)
def GotOB (w w' : World) (l : List (List Flit)) (e : Ending) : Prop := ∃ v vs, e = .returned v ∧ OB w' w.heap.size w'.heap.size v l vs
set_option maxHeartbeats 2000000 in
theorem laws_toFlitSS2 (l : List (List Flit)) (A : Option Addr) (c : Nat) (w : World) (hr : (kB 142).C w A l.length l) (hn : l.length ≤ 1048576) (hm : Hid (∀ x ∈ l, x.length ≤ 1048576)) :
    Calls Try.prog 66 #[.slice A l.length c] w fun e w' => GotOB w w' l e ∧ Below w.heap.size w w' := by
  have mk := print_make_int (P := Try.prog) 31 107 (.slice none 0 0) 24 Try.underlying31 info_B rfl (by omega) (l.length : Int) (by omega) (by simp; omega)
  simp only [Int.toNat_natCast] at mk
  have HM := Lib.hid (OB.made w w.heap.size l.length (Nat.le_refl _) (by omega))
  go_enter Try.func66, Try.ntmps66
  go_wp2
  go_loopw [4] (fun i wr => ∃ (k : Nat) (x : List (List Flit)) (vs : List Value), i = .int .i64 k ∧ k ≤ l.length ∧ Hid (x.length = l.length) ∧ Hid (∀ j : Nat, j < k → rl x j = rl l j) ∧ OB wr w.heap.size wr.heap.size (.slice (some ⟨w.heap.size, 0, none⟩) l.length l.length) x vs ∧ Below w.heap.size w wr ∧ w.heap.size < wr.heap.size) (fun i _ => l.length - (intOf i).toNat)
  case atStart => exact ⟨0, List.replicate l.length [], List.replicate l.length (.slice none 0 0), rfl, Nat.zero_le _, Lib.hid (by simp), Lib.hid fun j h => absurd h (Nat.not_lt_zero _), HM.out.wide (Nat.le_refl _) (by simp), (by with_reducible repeat (first | assumption | exact bw_refl _ | apply bw_alloc | apply bw_drew | apply bw_drewN | refine bw_set _ ?_ (by omega) | refine bw_then ?_ (by assumption))), by simp⟩
  case round =>
    obtain ⟨k, x, vs, rfl, hk, HL, HA, HO, HB, hsz⟩ := hrel
    obtain ⟨hc0, hf0, hz0⟩ := bcell HB
    by_cases hlt : k < l.length
    · obtain ⟨b, off, rfl, hb, Ai, ci, p0, hle, hCi⟩ := rdB_at hr k hlt
      have hki := hm.out _ (rl_mem hlt)
      obtain ⟨hx9, hf9⟩ := HO.cell k (by have := HL.out; omega)
      have HOH := Lib.hid HO
      clear HO
      go_wp2_with (first | (go_at_call 125; refine (laws_toFlitS (rl l k) Ai ci _ (by exact Kd.C_below hCi (by with_reducible repeat (first | assumption | exact bw_refl _ | apply bw_alloc | apply bw_drew | apply bw_drewN | refine bw_set _ ?_ (by omega) | refine bw_then ?_ (by assumption)))) hki).mono ?_; rintro e w1 ⟨hg1, hb1⟩; obtain ⟨v2, rfl, HO2⟩ := hg1; obtain ⟨A2, c2, rfl⟩ := Kd.R_slice HO2; obtain ⟨hc1, hf1, hz1⟩ := bcell hb1; (try simp only [World.size_alloc, World.size_setCell, World.size_drew, sz_drewN] at hz1); have hb2 := (by first | exact bw_then hb2 hb1 | exact bw_then (bw_drewN _ hb2) hb1 | exact bw_then (bw_alloc _ hb2) hb1 | exact bw_then (bw_drew hb2) hb1 | exact bw_then HB hb1 | exact bw_then (bw_drewN _ HB) hb1 | exact bw_then (bw_alloc _ HB) hb1 | exact bw_then (bw_drew HB) hb1 | exact hb1); obtain ⟨hc2, hf2, hz2⟩ := bcell hb2; (try simp only [World.size_alloc, World.size_setCell, World.size_drew, sz_drewN] at hz2); try (first | obtain ⟨hy1, hy2, hy3, hy4⟩ := lts4 hz2 | obtain ⟨hy1, hy2, hy3⟩ := lts3 hz2 | obtain ⟨hy1, hy2⟩ := lts2 hz2 | have hy1 := lts1 hz2); have hb9 := hb1))
      go_roundw
      case rel =>
        have hz3 := hb1.size
        have H2 := (HOH.out.below hb1).put k (by have := HL.out; omega) _ (rl l k) HO2 (Nat.le_refl _) (by omega) (by omega)
        exact ⟨k + 1, x.set k (rl l k), vs.set k (.slice A2 (rl l k).length c2), by go_num, by omega, Lib.hid (by rw [List.length_set]; exact HL.out), Lib.hid (upto (fun j hj => by rw [set_getB (by have := HL.out; omega) j (by have := HL.out; omega), if_neg (by omega)]; exact HA.out j hj) (by rw [set_getB (by have := HL.out; omega) k (by have := HL.out; omega), if_pos rfl])), by simpa only [World.size_alloc, World.size_setCell, World.size_drew, sz_drewN] using H2, bw_set _ (bw_then HB hb1) (Nat.le_refl _), by simp only [World.size_alloc, World.size_setCell, World.size_drew, sz_drewN]; omega⟩
      case measure => simp [intOf]; omega
    · go_wp2
      go_ret
      have e : x = l := same_getB HL.out (fun j hj => HA.out j (by omega))
      subst e
      exact ⟨⟨_, _, rfl, HO⟩, (by with_reducible repeat (first | assumption | exact bw_refl _ | apply bw_alloc | apply bw_drew | apply bw_drewN | refine bw_set _ ?_ (by omega) | refine bw_then ?_ (by assumption)))⟩
end Go.Proofs.Ytinnfahmfggghaa
