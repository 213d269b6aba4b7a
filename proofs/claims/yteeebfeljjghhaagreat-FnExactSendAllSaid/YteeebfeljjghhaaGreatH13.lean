/- Lemmas for laws of this seat, for all inputs: Lx SndV Open OpenP NetS NetM. -/
import Derived.Test.YteeebfeljjghhaaGreatH7
import Derived.Test.YteeebfeljjghhaaGreatH12
import Derived.Test.YteeebfeljjghhaaGreatH9
import Derived.Test.YteeebfeljjghhaaGreatH11
import Derived.Test.YteeebfeljjghhaaGreatH2
import Derived.ProofKit
import Derived.OpenShut
import Derived.SizedLaws
import Derived.WideShapes
import Derived.ChangeSame
import Derived.Test.YteeebfeljjghhaaGreatH3
import Derived.Test.YteeebfeljjghhaaGreatH4
import Derived.Test.YteeebfeljjghhaaGreatH6
/- A call that gives a network and a value, its box made at any time: what is known behind it. -/
set_option linter.unusedVariables false
set_option linter.unusedSimpArgs false
namespace Go.Proofs.YteeebfeljjghhaaGreat
open Go.RowKit Go.Proofs.YteeebfeljjghhaaGreatW.PrintWords
open NoC

structure NAV where
  q : NA
  v4 : List Value
  v7 : List Value
  v8 : List Value
  lo : Nat
  hi : Nat
def NAV.zero : NAV := ⟨⟨none, none, none, none, none, none, none, none, 0, 0, 0, 0, 0, 0, 0, 0⟩, [], [], [], 0, 0⟩
def GX (B : Nat) (X : Net) (y : NAV) (W : World) : Prop := NX W y.lo X y.q y.v4 y.v7 y.v8 ∧ NT y.hi X y.q y.v4 y.v7 y.v8 ∧ B ≤ y.lo ∧ y.lo ≤ y.hi ∧ y.hi ≤ W.heap.size
theorem GX.below {B : Nat} {X : Net} {y : NAV} {W W2 : World} (h : GX B X y W) (hb : Below W.heap.size W W2) : GX B X y W2 := ⟨h.1.below hb, h.2.1, h.2.2.1, h.2.2.2.1, Nat.le_trans h.2.2.2.2 (bw_size hb)⟩
theorem GX.of {B : Nat} {X : Net} {W W1 : World} {v : Value} {e : Ending} (h : GotNV W W1 X v e) (hb : Below W.heap.size W W1) (hB : B ≤ W.heap.size) : ∃ y : NAV, e = .returned (.tuple #[.agg (netCells X y.q), v]) ∧ GX B X y W1 ∧ W.heap.size ≤ y.lo ∧ y.hi ≤ W1.heap.size := by
  obtain ⟨q, v4, v7, v8, rfl, hn⟩ := h
  exact ⟨⟨q, v4, v7, v8, W.heap.size, W1.heap.size⟩, rfl, ⟨hn, hn.ny.top, hB, bw_size hb, Nat.le_refl _⟩, Nat.le_refl _, Nat.le_refl _⟩
structure Out (B : Nat) (X : Net) (y : NAV) (g : Nat) (wa w9 : World) : Prop where
  nx : NX w9 y.lo X y.q y.v4 y.v7 y.v8
  nt : NT y.hi X y.q y.v4 y.v7 y.v8
  bt : BT w9 g X y.q
  off : g < y.lo ∨ y.hi ≤ g
  lo : B ≤ y.lo
  lh : y.lo ≤ y.hi
  hi : y.hi ≤ w9.heap.size
  bg : B ≤ g
  below : Below wa.heap.size wa w9
theorem litBN {F : World → Prop} {B g : Nat} {iv : List (Nat × Nat)} {W : World} {cs : Array Value} (h : F W ∧ B ≤ g ∧ W.heap[g]? = some (.cells cs 43 (0, 0)) ∧ ∀ z ∈ iv, g < z.1 ∨ z.2 ≤ g) (hc : cs.size = 11) : BN W g := ⟨cs, h.2.2.1, hc⟩
theorem out_of {B : Nat} {X : Net} {y : NAV} {g : Nat} {wa W : World} {cs : Array Value} {iv : List (Nat × Nat)} (h : GX B X y W ∧ B ≤ g ∧ W.heap[g]? = some (.cells cs 43 (0, 0)) ∧ ∀ z ∈ (y.lo, y.hi) :: iv, g < z.1 ∨ z.2 ≤ g) (hc : cs.size = 11) (hB : wa.heap.size = B) (hb : Below wa.heap.size wa W) : Out B X y g wa (putN W g X y.q) := by
  have hn : BN W g := ⟨cs, h.2.2.1, hc⟩
  have hbt := putN_BT (n := X) (q := y.q) hn
  have hbl : Below wa.heap.size wa (putN W g X y.q) := below_put hb (by rw [hB]; exact h.2.1)
  have hs : W.heap.size ≤ (putN W g X y.q).heap.size := by
    have h1 : Below 0 W (putN W g X y.q) := below_put (Below.cut (bw_refl W) (Nat.zero_le _)) (Nat.zero_le _)
    exact h1.size
  exact ⟨h.1.1.put hn, h.1.2.1, hbt, h.2.2.2 _ (List.mem_cons_self ..), h.1.2.2.1, h.1.2.2.2.1, Nat.le_trans h.1.2.2.2.2 hs, h.2.1, hbl⟩
end Go.Proofs.YteeebfeljjghhaaGreat
/- Packets sent one after the other: the reference's side; for all networks and all rows of packets. -/
set_option linter.unusedVariables false
set_option linter.unusedSimpArgs false
namespace Go.Proofs.YteeebfeljjghhaaGreat
open Go.RowKit Go.Proofs.YteeebfeljjghhaaGreatW.PrintWords
open NoC

theorem spec_l16Bit (b : Bool) (w : World) : Calls Tryz.prog 69 #[.bool b] w fun e w' => e = .returned (.int .i64 (if b = true then 1 else 0)) ∧ w' = w := by
  cases b
  · go_enter Tryz.func69, Tryz.ntmps69
    go_wp2
    go_ret
    exact ⟨rfl, rfl⟩
  · go_enter Tryz.func69, Tryz.ntmps69
    go_wp2
    go_ret
    exact ⟨rfl, rfl⟩
set_option maxHeartbeats 16000000 in
set_option maxRecDepth 100000 in
theorem spec_SendAll (n : Net) (l : List Packet) (q : NA) (A : Option Addr) (c : Nat) (w : World) (hr : NetR 103 w n q) (hp : kP.C w A l.length l) (hl : l.length ≤ 2097152) :
  Calls Tryz.prog 28 #[.agg (netCells n q), .slice A l.length c] w fun e w' => GotNV w w' (sendAllN n l) (.int .i64 (sendAllK n l)) e ∧ Below w.heap.size w w' := by
 have HR := Lib.hid hr
 have NBQ := Lib.hid hr.nb
 have HP := Lib.hid hp
 clear hp
 obtain ⟨a1, a2, a3, a4, a5, a6, a7, a8, c1, c2, c3, c4, c5, c6, c7, c8⟩ := q
 clear hr
 dsimp only [netCells]
 go_enter Tryz.func28, Tryz.ntmps28
 go_wp2_with fail

 refine (spec_l15Copy n _ _ (HR.out.below bel)).mono ?_
 rintro e w1 ⟨hg1, HBC⟩
 obtain ⟨qq, v4, v7, v8, rfl, HN0⟩ := hg1
 obtain ⟨b1, b2, b3, b4, b5, b6, b7, b8, d1, d2, d3, d4, d5, d6, d7, d8⟩ := qq
 dsimp only [netCells]
 have HN1 := Lib.hid HN0
 clear HN0
 obtain ⟨w0, e0⟩ : ∃ z, z = w1.alloc (.cells #[.int .i64 n.mesh.g.w, .int .i64 n.mesh.g.h, .slice b1 n.mesh.br.length d1, .slice b2 n.pa.length d2, .slice b3 n.pb.length d3, .slice b4 n.bufs.length d4, .slice b5 n.owners.length d5, .slice b6 n.turns.length d6, .slice b7 n.srcs.length d7, .slice b8 n.arrs.length d8, .int .i64 n.time] 43) := ⟨_, rfl⟩
 have hz0 : w0.heap.size = w1.heap.size + 1 := by rw [e0]; simp only [szs]
 have hw01 : Below w1.heap.size w1 w0 := by rw [e0]; exact bw_alloc _ (bw_refl w1)
 obtain ⟨bx, ebx⟩ : ∃ z, z = w1.heap.size := ⟨_, rfl⟩
 have HBT : Hid (BT w0 bx n ⟨b1, b2, b3, b4, b5, b6, b7, b8, d1, d2, d3, d4, d5, d6, d7, d8⟩) := Lib.hid (by rw [e0, ebx]; exact blk_new w1 _)
 obtain ⟨lo, elo⟩ : ∃ z, z = w.heap.size + 2 := ⟨_, rfl⟩
 have HN : Hid (NX w0 lo n ⟨b1, b2, b3, b4, b5, b6, b7, b8, d1, d2, d3, d4, d5, d6, d7, d8⟩ v4 v7 v8) := Lib.hid ((HN1.out.lower (by simp only [szs]; omega)).below hw01)
 have HHB : Hid (Below w.heap.size w w0) := Lib.hid (bw_then (bw_then (bw_alloc _ (bw_alloc _ (bw_refl w))) HBC) hw01)
 have sw : w.heap.size + 2 ≤ w1.heap.size := by have := bw_size HBC; simp only [szs] at this; omega
 have HX0 : Hid (Box w0 w.heap.size #[.int .i64 n.mesh.g.w, .int .i64 n.mesh.g.h, .slice a1 n.mesh.br.length c1, .slice a2 n.pa.length c2, .slice a3 n.pb.length c3, .slice a4 n.bufs.length c4, .slice a5 n.owners.length c5, .slice a6 n.turns.length c6, .slice a7 n.srcs.length c7, .slice a8 n.arrs.length c8, .int .i64 n.time]) := Lib.hid (((((Box.new w w.heap.size #[.int .i64 n.mesh.g.w, .int .i64 n.mesh.g.h, .slice a1 n.mesh.br.length c1, .slice a2 n.pa.length c2, .slice a3 n.pb.length c3, .slice a4 n.bufs.length c4, .slice a5 n.owners.length c5, .slice a6 n.turns.length c6, .slice a7 n.srcs.length c7, .slice a8 n.arrs.length c8, .int .i64 n.time] 43 rfl).alloc _).below HBC)).below hw01)
 have HZB : Hid (BN w0 (w.heap.size + 1)) := Lib.hid (((BT.bn (by have hn := BT.new (w.alloc (.cells #[.int .i64 n.mesh.g.w, .int .i64 n.mesh.g.h, .slice a1 n.mesh.br.length c1, .slice a2 n.pa.length c2, .slice a3 n.pb.length c3, .slice a4 n.bufs.length c4, .slice a5 n.owners.length c5, .slice a6 n.turns.length c6, .slice a7 n.srcs.length c7, .slice a8 n.arrs.length c8, .int .i64 n.time] 43)) ⟨⟨⟨0, 0⟩, []⟩, [], [], [], [], [], [], [], 0⟩ ⟨none, none, none, none, none, none, none, none, 0, 0, 0, 0, 0, 0, 0, 0⟩; rw [World.size_alloc] at hn; exact hn)).below HBC).below hw01)
 have xo0 : (w1.alloc (.cells #[.int .i64 n.mesh.g.w, .int .i64 n.mesh.g.h, .slice b1 n.mesh.br.length d1, .slice b2 n.pa.length d2, .slice b3 n.pb.length d3, .slice b4 n.bufs.length d4, .slice b5 n.owners.length d5, .slice b6 n.turns.length d6, .slice b7 n.srcs.length d7, .slice b8 n.arrs.length d8, .int .i64 n.time] 43)).cell? ⟨w.heap.size, 0, none⟩ = some (.int .i64 n.mesh.g.w) := by rw [← e0]; exact HX0.out.get 0
 have xo1 : (w1.alloc (.cells #[.int .i64 n.mesh.g.w, .int .i64 n.mesh.g.h, .slice b1 n.mesh.br.length d1, .slice b2 n.pa.length d2, .slice b3 n.pb.length d3, .slice b4 n.bufs.length d4, .slice b5 n.owners.length d5, .slice b6 n.turns.length d6, .slice b7 n.srcs.length d7, .slice b8 n.arrs.length d8, .int .i64 n.time] 43)).cell? ⟨w.heap.size, 1, none⟩ = some (.int .i64 n.mesh.g.h) := by rw [← e0]; exact HX0.out.get 1
 have xo2 : (w1.alloc (.cells #[.int .i64 n.mesh.g.w, .int .i64 n.mesh.g.h, .slice b1 n.mesh.br.length d1, .slice b2 n.pa.length d2, .slice b3 n.pb.length d3, .slice b4 n.bufs.length d4, .slice b5 n.owners.length d5, .slice b6 n.turns.length d6, .slice b7 n.srcs.length d7, .slice b8 n.arrs.length d8, .int .i64 n.time] 43)).cell? ⟨w.heap.size, 2, none⟩ = some (.slice a1 n.mesh.br.length c1) := by rw [← e0]; exact HX0.out.get 2
 have xo3 : (w1.alloc (.cells #[.int .i64 n.mesh.g.w, .int .i64 n.mesh.g.h, .slice b1 n.mesh.br.length d1, .slice b2 n.pa.length d2, .slice b3 n.pb.length d3, .slice b4 n.bufs.length d4, .slice b5 n.owners.length d5, .slice b6 n.turns.length d6, .slice b7 n.srcs.length d7, .slice b8 n.arrs.length d8, .int .i64 n.time] 43)).cell? ⟨w.heap.size, 3, none⟩ = some (.slice a2 n.pa.length c2) := by rw [← e0]; exact HX0.out.get 3
 have xo4 : (w1.alloc (.cells #[.int .i64 n.mesh.g.w, .int .i64 n.mesh.g.h, .slice b1 n.mesh.br.length d1, .slice b2 n.pa.length d2, .slice b3 n.pb.length d3, .slice b4 n.bufs.length d4, .slice b5 n.owners.length d5, .slice b6 n.turns.length d6, .slice b7 n.srcs.length d7, .slice b8 n.arrs.length d8, .int .i64 n.time] 43)).cell? ⟨w.heap.size, 4, none⟩ = some (.slice a3 n.pb.length c3) := by rw [← e0]; exact HX0.out.get 4
 have xo5 : (w1.alloc (.cells #[.int .i64 n.mesh.g.w, .int .i64 n.mesh.g.h, .slice b1 n.mesh.br.length d1, .slice b2 n.pa.length d2, .slice b3 n.pb.length d3, .slice b4 n.bufs.length d4, .slice b5 n.owners.length d5, .slice b6 n.turns.length d6, .slice b7 n.srcs.length d7, .slice b8 n.arrs.length d8, .int .i64 n.time] 43)).cell? ⟨w.heap.size, 5, none⟩ = some (.slice a4 n.bufs.length c4) := by rw [← e0]; exact HX0.out.get 5
 have xo6 : (w1.alloc (.cells #[.int .i64 n.mesh.g.w, .int .i64 n.mesh.g.h, .slice b1 n.mesh.br.length d1, .slice b2 n.pa.length d2, .slice b3 n.pb.length d3, .slice b4 n.bufs.length d4, .slice b5 n.owners.length d5, .slice b6 n.turns.length d6, .slice b7 n.srcs.length d7, .slice b8 n.arrs.length d8, .int .i64 n.time] 43)).cell? ⟨w.heap.size, 6, none⟩ = some (.slice a5 n.owners.length c5) := by rw [← e0]; exact HX0.out.get 6
 have xo7 : (w1.alloc (.cells #[.int .i64 n.mesh.g.w, .int .i64 n.mesh.g.h, .slice b1 n.mesh.br.length d1, .slice b2 n.pa.length d2, .slice b3 n.pb.length d3, .slice b4 n.bufs.length d4, .slice b5 n.owners.length d5, .slice b6 n.turns.length d6, .slice b7 n.srcs.length d7, .slice b8 n.arrs.length d8, .int .i64 n.time] 43)).cell? ⟨w.heap.size, 7, none⟩ = some (.slice a6 n.turns.length c6) := by rw [← e0]; exact HX0.out.get 7
 have xo8 : (w1.alloc (.cells #[.int .i64 n.mesh.g.w, .int .i64 n.mesh.g.h, .slice b1 n.mesh.br.length d1, .slice b2 n.pa.length d2, .slice b3 n.pb.length d3, .slice b4 n.bufs.length d4, .slice b5 n.owners.length d5, .slice b6 n.turns.length d6, .slice b7 n.srcs.length d7, .slice b8 n.arrs.length d8, .int .i64 n.time] 43)).cell? ⟨w.heap.size, 8, none⟩ = some (.slice a7 n.srcs.length c7) := by rw [← e0]; exact HX0.out.get 8
 have xo9 : (w1.alloc (.cells #[.int .i64 n.mesh.g.w, .int .i64 n.mesh.g.h, .slice b1 n.mesh.br.length d1, .slice b2 n.pa.length d2, .slice b3 n.pb.length d3, .slice b4 n.bufs.length d4, .slice b5 n.owners.length d5, .slice b6 n.turns.length d6, .slice b7 n.srcs.length d7, .slice b8 n.arrs.length d8, .int .i64 n.time] 43)).cell? ⟨w.heap.size, 9, none⟩ = some (.slice a8 n.arrs.length c8) := by rw [← e0]; exact HX0.out.get 9
 have xo10 : (w1.alloc (.cells #[.int .i64 n.mesh.g.w, .int .i64 n.mesh.g.h, .slice b1 n.mesh.br.length d1, .slice b2 n.pa.length d2, .slice b3 n.pb.length d3, .slice b4 n.bufs.length d4, .slice b5 n.owners.length d5, .slice b6 n.turns.length d6, .slice b7 n.srcs.length d7, .slice b8 n.arrs.length d8, .int .i64 n.time] 43)).cell? ⟨w.heap.size, 10, none⟩ = some (.int .i64 n.time) := by rw [← e0]; exact HX0.out.get 10
 have xol : w.heap.size < (w1.alloc (.cells #[.int .i64 n.mesh.g.w, .int .i64 n.mesh.g.h, .slice b1 n.mesh.br.length d1, .slice b2 n.pa.length d2, .slice b3 n.pb.length d3, .slice b4 n.bufs.length d4, .slice b5 n.owners.length d5, .slice b6 n.turns.length d6, .slice b7 n.srcs.length d7, .slice b8 n.arrs.length d8, .int .i64 n.time] 43)).heap.size := by rw [← e0]; exact HX0.out.lt
 go_wp2_with fail
 rw [← e0]
 try rw [← ebx]
 repeat (first | clear xo0 | clear xo1 | clear xo2 | clear xo3 | clear xo4 | clear xo5 | clear xo6 | clear xo7 | clear xo8 | clear xo9 | clear xo10)
 clear xol
 have sb1 : bx < w0.heap.size := by omega
 have sb2 : w.heap.size + 2 ≤ bx := by omega
 have sl1 : lo ≤ w.heap.size + 2 := by omega
 have sl2 : w.heap.size + 2 ≤ lo := by omega
 have sl3 : lo ≤ bx := by omega
 have sl4 : lo ≤ w0.heap.size := by omega
 clear e0 ebx elo hz0 sw HN1 HBC hw01

 refine (spec_NetOk n _ _ (HR.out.below HHB.out)).mono ?_

 rintro e w2 ⟨rfl, hb2⟩
 have HN2 := Lib.hid (HN.out.below hb2)
 have HB2 := Lib.hid (HBT.out.below hb2)
 have HZ2 := Lib.hid (HZB.out.below hb2)
 have HX2 := Lib.hid (HX0.out.below hb2)
 have HL2 : Hid (Below lo w0 w2) := Lib.hid (Below.cut hb2 sl4)
 have zz2 := bw_size hb2
 have HWB : Hid (Below w.heap.size w w2) := Lib.hid (bw_then HHB.out hb2)
 clear hb2

 cases hk : netOk n
 ·have HE := Lib.hid (sendAll_no1 (l := l) hk)
  have z0 : w2.cell? ⟨bx, 0, none⟩ = some (.int .i64 n.mesh.g.w) := HB2.out.box.get 0
  have z1 : w2.cell? ⟨bx, 1, none⟩ = some (.int .i64 n.mesh.g.h) := HB2.out.box.get 1
  have z2 : w2.cell? ⟨bx, 2, none⟩ = some (.slice b1 n.mesh.br.length d1) := HB2.out.box.get 2
  have z3 : w2.cell? ⟨bx, 3, none⟩ = some (.slice b2 n.pa.length d2) := HB2.out.box.get 3
  have z4 : w2.cell? ⟨bx, 4, none⟩ = some (.slice b3 n.pb.length d3) := HB2.out.box.get 4
  have z5 : w2.cell? ⟨bx, 5, none⟩ = some (.slice b4 n.bufs.length d4) := HB2.out.box.get 5
  have z6 : w2.cell? ⟨bx, 6, none⟩ = some (.slice b5 n.owners.length d5) := HB2.out.box.get 6
  have z7 : w2.cell? ⟨bx, 7, none⟩ = some (.slice b6 n.turns.length d6) := HB2.out.box.get 7
  have z8 : w2.cell? ⟨bx, 8, none⟩ = some (.slice b7 n.srcs.length d7) := HB2.out.box.get 8
  have z9 : w2.cell? ⟨bx, 9, none⟩ = some (.slice b8 n.arrs.length d8) := HB2.out.box.get 9
  have z10 : w2.cell? ⟨bx, 10, none⟩ = some (.int .i64 n.time) := HB2.out.box.get 10
  have zx : bx < w2.heap.size := HB2.out.lt

  obtain ⟨ry0, rv0⟩ := HZ2.out.get 0 (by omega)
  have rz0 := HZ2.out.frozen 0
  obtain ⟨ry1, rv1⟩ := HZ2.out.get 1 (by omega)
  have rz1 := HZ2.out.frozen 1
  obtain ⟨ry2, rv2⟩ := HZ2.out.get 2 (by omega)
  have rz2 := HZ2.out.frozen 2
  obtain ⟨ry3, rv3⟩ := HZ2.out.get 3 (by omega)
  have rz3 := HZ2.out.frozen 3
  obtain ⟨ry4, rv4⟩ := HZ2.out.get 4 (by omega)
  have rz4 := HZ2.out.frozen 4
  obtain ⟨ry5, rv5⟩ := HZ2.out.get 5 (by omega)
  have rz5 := HZ2.out.frozen 5
  obtain ⟨ry6, rv6⟩ := HZ2.out.get 6 (by omega)
  have rz6 := HZ2.out.frozen 6
  obtain ⟨ry7, rv7⟩ := HZ2.out.get 7 (by omega)
  have rz7 := HZ2.out.frozen 7
  obtain ⟨ry8, rv8⟩ := HZ2.out.get 8 (by omega)
  have rz8 := HZ2.out.frozen 8
  obtain ⟨ry9, rv9⟩ := HZ2.out.get 9 (by omega)
  have rz9 := HZ2.out.frozen 9
  obtain ⟨ry10, rv10⟩ := HZ2.out.get 10 (by omega)
  have rz10 := HZ2.out.frozen 10
  go_wp2
  obtain ⟨W9, e9⟩ : ∃ z, z = putN w2 (w.heap.size + 1) n ⟨b1, b2, b3, b4, b5, b6, b7, b8, d1, d2, d3, d4, d5, d6, d7, d8⟩ := ⟨_, rfl⟩
  have HB9 : Hid (BT W9 (w.heap.size + 1) n ⟨b1, b2, b3, b4, b5, b6, b7, b8, d1, d2, d3, d4, d5, d6, d7, d8⟩) := Lib.hid (by rw [e9]; exact putN_BT HZ2.out)
  have HN9 := Lib.hid (show NX W9 _ n ⟨b1, b2, b3, b4, b5, b6, b7, b8, d1, d2, d3, d4, d5, d6, d7, d8⟩ v4 v7 v8 from by rw [e9]; exact HN2.out.put HZ2.out)
  have HL9 : Hid (Below w.heap.size w W9) := Lib.hid (by rw [e9]; exact below_put HWB.out (by omega))
  unfold putN at e9
  try dsimp only at e9
  rw [← e9]
  clear e9
  exact bodyPost_ret (results_cell_row2 Tryz.results28 _ _ ((w.heap.size + 1)) 43 _ (0, 0) _ rfl HB9.out Tryz.underlying43 rfl (by kernel_rfl)) rfl (by dsimp only; rw [HE.out.1, HE.out.2]; exact ⟨⟨_, _, _, _, rfl, HN9.out.lower (by omega)⟩, HL9.out⟩)
 by_cases h40 : l.length ≤ 40
 case neg =>
  have HE := Lib.hid (sendAll_no2 (n := n) h40)
  have h41 : (40 : Int) < (l.length : Int) := by omega
  clear h40
  have z0 : w2.cell? ⟨bx, 0, none⟩ = some (.int .i64 n.mesh.g.w) := HB2.out.box.get 0
  have z1 : w2.cell? ⟨bx, 1, none⟩ = some (.int .i64 n.mesh.g.h) := HB2.out.box.get 1
  have z2 : w2.cell? ⟨bx, 2, none⟩ = some (.slice b1 n.mesh.br.length d1) := HB2.out.box.get 2
  have z3 : w2.cell? ⟨bx, 3, none⟩ = some (.slice b2 n.pa.length d2) := HB2.out.box.get 3
  have z4 : w2.cell? ⟨bx, 4, none⟩ = some (.slice b3 n.pb.length d3) := HB2.out.box.get 4
  have z5 : w2.cell? ⟨bx, 5, none⟩ = some (.slice b4 n.bufs.length d4) := HB2.out.box.get 5
  have z6 : w2.cell? ⟨bx, 6, none⟩ = some (.slice b5 n.owners.length d5) := HB2.out.box.get 6
  have z7 : w2.cell? ⟨bx, 7, none⟩ = some (.slice b6 n.turns.length d6) := HB2.out.box.get 7
  have z8 : w2.cell? ⟨bx, 8, none⟩ = some (.slice b7 n.srcs.length d7) := HB2.out.box.get 8
  have z9 : w2.cell? ⟨bx, 9, none⟩ = some (.slice b8 n.arrs.length d8) := HB2.out.box.get 9
  have z10 : w2.cell? ⟨bx, 10, none⟩ = some (.int .i64 n.time) := HB2.out.box.get 10
  have zx : bx < w2.heap.size := HB2.out.lt

  obtain ⟨ry0, rv0⟩ := HZ2.out.get 0 (by omega)
  have rz0 := HZ2.out.frozen 0
  obtain ⟨ry1, rv1⟩ := HZ2.out.get 1 (by omega)
  have rz1 := HZ2.out.frozen 1
  obtain ⟨ry2, rv2⟩ := HZ2.out.get 2 (by omega)
  have rz2 := HZ2.out.frozen 2
  obtain ⟨ry3, rv3⟩ := HZ2.out.get 3 (by omega)
  have rz3 := HZ2.out.frozen 3
  obtain ⟨ry4, rv4⟩ := HZ2.out.get 4 (by omega)
  have rz4 := HZ2.out.frozen 4
  obtain ⟨ry5, rv5⟩ := HZ2.out.get 5 (by omega)
  have rz5 := HZ2.out.frozen 5
  obtain ⟨ry6, rv6⟩ := HZ2.out.get 6 (by omega)
  have rz6 := HZ2.out.frozen 6
  obtain ⟨ry7, rv7⟩ := HZ2.out.get 7 (by omega)
  have rz7 := HZ2.out.frozen 7
  obtain ⟨ry8, rv8⟩ := HZ2.out.get 8 (by omega)
  have rz8 := HZ2.out.frozen 8
  obtain ⟨ry9, rv9⟩ := HZ2.out.get 9 (by omega)
  have rz9 := HZ2.out.frozen 9
  obtain ⟨ry10, rv10⟩ := HZ2.out.get 10 (by omega)
  have rz10 := HZ2.out.frozen 10
  go_wp2
  obtain ⟨W9, e9⟩ : ∃ z, z = putN w2 (w.heap.size + 1) n ⟨b1, b2, b3, b4, b5, b6, b7, b8, d1, d2, d3, d4, d5, d6, d7, d8⟩ := ⟨_, rfl⟩
  have HB9 : Hid (BT W9 (w.heap.size + 1) n ⟨b1, b2, b3, b4, b5, b6, b7, b8, d1, d2, d3, d4, d5, d6, d7, d8⟩) := Lib.hid (by rw [e9]; exact putN_BT HZ2.out)
  have HN9 := Lib.hid (show NX W9 _ n ⟨b1, b2, b3, b4, b5, b6, b7, b8, d1, d2, d3, d4, d5, d6, d7, d8⟩ v4 v7 v8 from by rw [e9]; exact HN2.out.put HZ2.out)
  have HL9 : Hid (Below w.heap.size w W9) := Lib.hid (by rw [e9]; exact below_put HWB.out (by omega))
  unfold putN at e9
  try dsimp only at e9
  rw [← e9]
  clear e9
  exact bodyPost_ret (results_cell_row2 Tryz.results28 _ _ ((w.heap.size + 1)) 43 _ (0, 0) _ rfl HB9.out Tryz.underlying43 rfl (by kernel_rfl)) rfl (by dsimp only; rw [HE.out.1, HE.out.2]; exact ⟨⟨_, _, _, _, rfl, HN9.out.lower (by omega)⟩, HL9.out⟩)
 case pos =>
  have HE := Lib.hid (sendAll_yes hk h40)
  have HOK : Hid (∀ k : Nat, netOk (sndTo n l k) = true) := Lib.hid (sndTo_ok hk l)
  have HNB : Hid (∀ k : Nat, NB (sndTo n l k)) := Lib.hid (sndTo_nb NBQ.out hk l)
  have h41 : ¬ (40 : Int) < (l.length : Int) := by omega
  clear hk
  go_wp2_with fail
  go_loopw [7, 8] (fun v i wr => ∃ (k : Nat) (q' : NA) (u4 u7 u8 : List Value), i = .int .i64 k ∧ v = .int .i64 (cntTo n l k) ∧ k ≤ l.length ∧ Hid (NX wr lo (sndTo n l k) q' u4 u7 u8) ∧ Hid (BT wr bx (sndTo n l k) q') ∧ Hid (Below lo w0 wr)) (fun v i _ => l.length - (intOf i).toNat)
  case atStart => exact ⟨0, _, v4, v7, v8, rfl, rfl, Nat.zero_le _, Lib.hid HN2.out, Lib.hid HB2.out, Lib.hid HL2.out⟩
  case round =>
   clear HN2 HB2 HL2 HZ2 HX2 HWB
   obtain ⟨k, q', u4, u7, u8, rfl, rfl, hk, HNk, HBk, HLk⟩ := hrel
   obtain ⟨wk, ewk⟩ : ∃ z, z = wr := ⟨_, rfl⟩
   subst ewk
   obtain ⟨p1, p2, p3, p4, p5, p6, p7, p8, r1, r2, r3, r4, r5, r6, r7, r8⟩ := q'
   have hcr := cntTo_range n l k
   by_cases hlt : k < l.length
   ·have HWBk : Hid (Below w.heap.size w wk) := Lib.hid (bw_trans HHB.out HLk.out (by omega))
    have hpk := Kd.C_below HP.out HWBk.out
    obtain ⟨pb, po, eA, hpb, pk0, pk1, pk2, pk3, pk4⟩ := rdP_at hpk k hlt
    subst eA
    have zzk := HLk.out.size
    have i0 : (k : Int) < (l.length : Int) := by omega
    have k0 : (0 : Int) ≤ (k : Int) := by omega
    obtain ⟨P, hP⟩ : ∃ P, rp l k = P := ⟨_, rfl⟩
    have HNBk := Lib.hid (HNB.out k)
    have HOKk := Lib.hid (HOK.out k)
    have HS3 : Hid (sndTo n l (k + 1) = sndN (sndTo n l k) P) := Lib.hid (by rw [← hP]; rfl)
    have HC3 : Hid (cntTo n l (k + 1) = cntTo n l k + (if sendOk (sndTo n l k) P = true then 1 else 0)) := Lib.hid (by rw [← hP]; rfl)
    obtain ⟨XK, hXK⟩ : ∃ XK, sndTo n l k = XK := ⟨_, rfl⟩
    rw [hXK] at HNk HBk HNBk HOKk HS3 HC3
    rw [hP] at pk0 pk1 pk2 pk3 pk4
    have HSP : Hid (∀ W, Below wk.heap.size wk W → Calls Tryz.prog 68 #[.agg (netCells XK ⟨p1, p2, p3, p4, p5, p6, p7, p8, r1, r2, r3, r4, r5, r6, r7, r8⟩), .agg #[.int .i64 P.id, .int .i64 P.src, .int .i64 P.dst, .int .i64 P.cls, .int .i64 P.len]] W fun e w' => GotNV W w' (sndN XK P) (.bool (sendOk XK P)) e ∧ Below W.heap.size W w') := Lib.hid (fun W hW => by
     have h := spec_SendPacket XK P ⟨p1, p2, p3, p4, p5, p6, p7, p8, r1, r2, r3, r4, r5, r6, r7, r8⟩ W ((HNk.out.reads HNBk.out).below hW)
     rw [show sendPacketN XK P = sndN XK P by simp [sendPacketN, HOKk.out], show sendPacketB XK P = sendOk XK P by simp [sendPacketB, HOKk.out]] at h
     exact h)
    dsimp only [netCells] at HSP
    have bxk := HBk.out.lt
    clear hpk hP hXK
    go_wp2_with fail
    refine wp_region_ty wk.heap.size (fun _ => .cells #[.int .i64 0, .int .i64 0, .slice none 0 0, .slice none 0 0, .slice none 0 0, .slice none 0 0, .slice none 0 0, .slice none 0 0, .slice none 0 0, .slice none 0 0, .int .i64 0] 43) (fun W => Below wk.heap.size wk W) (fun i => [.agg #[.int .i64 XK.mesh.g.w, .int .i64 XK.mesh.g.h, .slice p1 XK.mesh.br.length r1, .slice p2 XK.pa.length r2, .slice p3 XK.pb.length r3, .slice p4 XK.bufs.length r4, .slice p5 XK.owners.length r5, .slice p6 XK.turns.length r6, .slice p7 XK.srcs.length r7, .slice p8 XK.arrs.length r8, .int .i64 XK.time], .slice (some ⟨pb, po, none⟩) l.length c, .int .i64 k, .pointer (some ⟨pb, po + k * 5, none⟩), .agg #[.int .i64 P.id, .int .i64 P.src, .int .i64 P.dst, .int .i64 P.cls, .int .i64 P.len], undef, undef, undef, undef, undef, undef].getD i undef) 11 [(0, .quiet), (1, .quiet), (2, .quiet), (3, .quiet), (4, .quiet), (5, .chain), (6, .quiet), (7, .quiet), (8, .quiet), (9, .lit), (10, .chain)] (by kernel_rfl) (by kernel_rfl) (by kernel_rfl) (by kernel_rfl) (by kernel_rfl) (by kernel_rfl) (by kernel_rfl) (by kernel_rfl) (bw_drew (bw_refl _)) ⟨fun W o h => bw_alloc _ h, fun W h => bw_size h⟩ (fun _ => True) trivial (fun _ _ _ _ _ => trivial) ?_
    refine wpTx_q (some 29) rfl rfl (by rfl) (fun W hC => ?_) ?_
    ·have hX := Box.below HBk.out.box hC
     have h0 : W.cell? ⟨bx, 0, none⟩ = some (.int .i64 XK.mesh.g.w) := hX.get 0
     have h1 : W.cell? ⟨bx, 1, none⟩ = some (.int .i64 XK.mesh.g.h) := hX.get 1
     have h2 : W.cell? ⟨bx, 2, none⟩ = some (.slice p1 XK.mesh.br.length r1) := hX.get 2
     have h3 : W.cell? ⟨bx, 3, none⟩ = some (.slice p2 XK.pa.length r2) := hX.get 3
     have h4 : W.cell? ⟨bx, 4, none⟩ = some (.slice p3 XK.pb.length r3) := hX.get 4
     have h5 : W.cell? ⟨bx, 5, none⟩ = some (.slice p4 XK.bufs.length r4) := hX.get 5
     have h6 : W.cell? ⟨bx, 6, none⟩ = some (.slice p5 XK.owners.length r5) := hX.get 6
     have h7 : W.cell? ⟨bx, 7, none⟩ = some (.slice p6 XK.turns.length r6) := hX.get 7
     have h8 : W.cell? ⟨bx, 8, none⟩ = some (.slice p7 XK.srcs.length r7) := hX.get 8
     have h9 : W.cell? ⟨bx, 9, none⟩ = some (.slice p8 XK.arrs.length r8) := hX.get 9
     have h10 : W.cell? ⟨bx, 10, none⟩ = some (.int .i64 XK.time) := hX.get 10
     clear hX
     clear hC
     go_simp
     try rfl
    try simp only [Act.put, nms]
    refine wpTx_q (some 30) rfl rfl (by rfl) (fun W hC => ?_) ?_
    ·clear hC
     go_simp
     try rfl
    try simp only [Act.put, nms]
    refine wpTx_q (some 31) rfl rfl (by rfl) (fun W hC => ?_) ?_
    ·clear hC
     go_simp
     try rfl
    try simp only [Act.put, nms]
    refine wpTx_q (some 32) rfl rfl (by rfl) (fun W hC => ?_) ?_
    ·clear hC
     go_simp
     try rfl
    try simp only [Act.put, nms]
    refine wpTx_q (some 33) rfl rfl (by rfl) (fun W hC => ?_) ?_
    ·have h0 := (cell_low hC hpb _).trans pk0
     have h1 := (cell_low hC hpb _).trans pk1
     have h2 := (cell_low hC hpb _).trans pk2
     have h3 := (cell_low hC hpb _).trans pk3
     have h4 := (cell_low hC hpb _).trans pk4
     clear hC
     go_simp
     try rfl
    try simp only [Act.put, nms]
    refine wpTx_d (some 34) rfl rfl (by rfl) NAV.zero (fun y => .tuple #[.agg (netCells (sndN XK P) y.q), .bool (sendOk XK P)]) (fun y W => GX wk.heap.size (sndN XK P) y W) (fun y => (y.lo, y.hi)) (fun W hF hC => ?_) (fun y W W' h hb => h.below hb) (fun yq => ?_)
    ·refine LoOp.enter (by go_simp; first | done | exact ⟨rfl, rfl⟩ | rfl) ?_
     refine (HSP.out W hC).mono ?_
     rintro e W1 ⟨hg, hb1⟩
     obtain ⟨y, rfl, hx, h1, h2⟩ := GX.of hg hb1 (bw_size hC)
     exact ⟨_, rfl, y, rfl, bw_then hC hb1, hx, hb1, h1, h2⟩
    obtain ⟨⟨s1, s2, s3, s4, s5, s6, s7, s8, t1, t2, t3, t4, t5, t6, t7, t8⟩, s4x, s7x, s8x, lox, hix⟩ := yq
    dsimp only [netCells]
    try simp only [Act.put, nms]
    refine wpTx_v (some 28) (.tuple #[.agg #[.int .i64 (sndN XK P).mesh.g.w, .int .i64 (sndN XK P).mesh.g.h, .slice s1 (sndN XK P).mesh.br.length t1, .slice s2 (sndN XK P).pa.length t2, .slice s3 (sndN XK P).pb.length t3, .slice s4 (sndN XK P).bufs.length t4, .slice s5 (sndN XK P).owners.length t5, .slice s6 (sndN XK P).turns.length t6, .slice s7 (sndN XK P).srcs.length t7, .slice s8 (sndN XK P).arrs.length t8, .int .i64 (sndN XK P).time], .bool (sendOk XK P)]) rfl rfl (by rfl) (fun W hC => ?_) ?_
    ·clear hC
     go_simp
     try rfl
    try simp only [Act.put, nms]
    refine wpTx_v (some 35) (.agg #[.int .i64 (sndN XK P).mesh.g.w, .int .i64 (sndN XK P).mesh.g.h, .slice s1 (sndN XK P).mesh.br.length t1, .slice s2 (sndN XK P).pa.length t2, .slice s3 (sndN XK P).pb.length t3, .slice s4 (sndN XK P).bufs.length t4, .slice s5 (sndN XK P).owners.length t5, .slice s6 (sndN XK P).turns.length t6, .slice s7 (sndN XK P).srcs.length t7, .slice s8 (sndN XK P).arrs.length t8, .int .i64 (sndN XK P).time]) rfl rfl (by rfl) (fun W hC => ?_) ?_
    ·clear hC
     go_simp
     try rfl
    try simp only [Act.put, nms]
    refine wpTx_v (some 36) (.bool (sendOk XK P)) rfl rfl (by rfl) (fun W hC => ?_) ?_
    ·clear hC
     go_simp
     try rfl
    try simp only [Act.put, nms]
    refine wpTx_l (some 9) rfl rfl (by rfl) (fun W => ?_) (fun gb => ?_)
    ·go_simp
     try rfl
    try simp only [Act.put, nms]
    refine wpTx_c none rfl rfl (by rfl) () (fun _ => undef) (fun _ W => Out wk.heap.size (sndN XK P) ⟨⟨s1, s2, s3, s4, s5, s6, s7, s8, t1, t2, t3, t4, t5, t6, t7, t8⟩, s4x, s7x, s8x, lox, hix⟩ gb wk W) (fun W hF hC => ?_) (fun _ => ?_)
    ·have hn := litBN hF rfl
     obtain ⟨ry0, rv0⟩ := hn.get 0 (by omega)
     have rz0 := hn.frozen 0
     obtain ⟨ry1, rv1⟩ := hn.get 1 (by omega)
     have rz1 := hn.frozen 1
     obtain ⟨ry2, rv2⟩ := hn.get 2 (by omega)
     have rz2 := hn.frozen 2
     obtain ⟨ry3, rv3⟩ := hn.get 3 (by omega)
     have rz3 := hn.frozen 3
     obtain ⟨ry4, rv4⟩ := hn.get 4 (by omega)
     have rz4 := hn.frozen 4
     obtain ⟨ry5, rv5⟩ := hn.get 5 (by omega)
     have rz5 := hn.frozen 5
     obtain ⟨ry6, rv6⟩ := hn.get 6 (by omega)
     have rz6 := hn.frozen 6
     obtain ⟨ry7, rv7⟩ := hn.get 7 (by omega)
     have rz7 := hn.frozen 7
     obtain ⟨ry8, rv8⟩ := hn.get 8 (by omega)
     have rz8 := hn.frozen 8
     obtain ⟨ry9, rv9⟩ := hn.get 9 (by omega)
     have rz9 := hn.frozen 9
     obtain ⟨ry10, rv10⟩ := hn.get 10 (by omega)
     have rz10 := hn.frozen 10
     have hO := out_of (X := sndN XK P) (y := ⟨⟨s1, s2, s3, s4, s5, s6, s7, s8, t1, t2, t3, t4, t5, t6, t7, t8⟩, s4x, s7x, s8x, lox, hix⟩) (wa := wk) hF rfl rfl hC
     refine LoOp.skip rfl (w1 := putN W gb (sndN XK P) ⟨s1, s2, s3, s4, s5, s6, s7, s8, t1, t2, t3, t4, t5, t6, t7, t8⟩) ?_ ⟨(), rfl, hO.below, hO⟩
     clear hO hF hC hn
     unfold putN
     go_simp
     try rfl
    try simp only [Act.put, nms]
    refine wpTx_z (fun w8 hO hC => ?_)
    clear hC
    have HO := Lib.hid hO
    clear hO
    refine ⟨_, rfl, by rfl, ?_⟩
    go_simp
    have hb8 := HO.out.below
    have z88 := bw_size hb8
    have B6 : Box w8 gb #[.int .i64 (sndN XK P).mesh.g.w, .int .i64 (sndN XK P).mesh.g.h, .slice s1 (sndN XK P).mesh.br.length t1, .slice s2 (sndN XK P).pa.length t2, .slice s3 (sndN XK P).pb.length t3, .slice s4 (sndN XK P).bufs.length t4, .slice s5 (sndN XK P).owners.length t5, .slice s6 (sndN XK P).turns.length t6, .slice s7 (sndN XK P).srcs.length t7, .slice s8 (sndN XK P).arrs.length t8, .int .i64 (sndN XK P).time] := HO.out.bt.box
    obtain ⟨y6, g6⟩ := B6
    have gg0 : w8.cell? ⟨gb, 0, none⟩ = some (.int .i64 (sndN XK P).mesh.g.w) := g6 0
    have gg1 : w8.cell? ⟨gb, 1, none⟩ = some (.int .i64 (sndN XK P).mesh.g.h) := g6 1
    have gg2 : w8.cell? ⟨gb, 2, none⟩ = some (.slice s1 (sndN XK P).mesh.br.length t1) := g6 2
    have gg3 : w8.cell? ⟨gb, 3, none⟩ = some (.slice s2 (sndN XK P).pa.length t2) := g6 3
    have gg4 : w8.cell? ⟨gb, 4, none⟩ = some (.slice s3 (sndN XK P).pb.length t3) := g6 4
    have gg5 : w8.cell? ⟨gb, 5, none⟩ = some (.slice s4 (sndN XK P).bufs.length t4) := g6 5
    have gg6 : w8.cell? ⟨gb, 6, none⟩ = some (.slice s5 (sndN XK P).owners.length t5) := g6 6
    have gg7 : w8.cell? ⟨gb, 7, none⟩ = some (.slice s6 (sndN XK P).turns.length t6) := g6 7
    have gg8 : w8.cell? ⟨gb, 8, none⟩ = some (.slice s7 (sndN XK P).srcs.length t7) := g6 8
    have gg9 : w8.cell? ⟨gb, 9, none⟩ = some (.slice s8 (sndN XK P).arrs.length t8) := g6 9
    have gg10 : w8.cell? ⟨gb, 10, none⟩ = some (.int .i64 (sndN XK P).time) := g6 10
    have HZ8 : Hid (BN w8 bx) := Lib.hid ((HBk.out.below hb8).bn)
    obtain ⟨ry0, rv0⟩ := HZ8.out.get 0 (by omega)
    have rz0 := HZ8.out.frozen 0
    obtain ⟨ry1, rv1⟩ := HZ8.out.get 1 (by omega)
    have rz1 := HZ8.out.frozen 1
    obtain ⟨ry2, rv2⟩ := HZ8.out.get 2 (by omega)
    have rz2 := HZ8.out.frozen 2
    obtain ⟨ry3, rv3⟩ := HZ8.out.get 3 (by omega)
    have rz3 := HZ8.out.frozen 3
    obtain ⟨ry4, rv4⟩ := HZ8.out.get 4 (by omega)
    have rz4 := HZ8.out.frozen 4
    obtain ⟨ry5, rv5⟩ := HZ8.out.get 5 (by omega)
    have rz5 := HZ8.out.frozen 5
    obtain ⟨ry6, rv6⟩ := HZ8.out.get 6 (by omega)
    have rz6 := HZ8.out.frozen 6
    obtain ⟨ry7, rv7⟩ := HZ8.out.get 7 (by omega)
    have rz7 := HZ8.out.frozen 7
    obtain ⟨ry8, rv8⟩ := HZ8.out.get 8 (by omega)
    have rz8 := HZ8.out.frozen 8
    obtain ⟨ry9, rv9⟩ := HZ8.out.get 9 (by omega)
    have rz9 := HZ8.out.frozen 9
    obtain ⟨ry10, rv10⟩ := HZ8.out.get 10 (by omega)
    have rz10 := HZ8.out.frozen 10
    have HL8 : Hid (Below lo w0 w8) := Lib.hid (bw_trans HLk.out hb8 (by have := HLk.out.size; omega))
    have HN8 := Lib.hid (HO.out.nx.lower (show lo ≤ lox by have h1 := HO.out.lo; dsimp only at h1; omega))
    clear hb8 pk0 pk1 pk2 pk3 pk4 HO
    go_wp2_with fail
    have hcr2 := cntTo_range n l k
    obtain ⟨W9, e9⟩ : ∃ z, z = putN w8 bx (sndN XK P) ⟨s1, s2, s3, s4, s5, s6, s7, s8, t1, t2, t3, t4, t5, t6, t7, t8⟩ := ⟨_, rfl⟩
    have HB9 : Hid (BT W9 bx (sndN XK P) ⟨s1, s2, s3, s4, s5, s6, s7, s8, t1, t2, t3, t4, t5, t6, t7, t8⟩) := Lib.hid (by rw [e9]; exact putN_BT HZ8.out)
    have HN9 := Lib.hid (show NX W9 _ (sndN XK P) ⟨s1, s2, s3, s4, s5, s6, s7, s8, t1, t2, t3, t4, t5, t6, t7, t8⟩ s4x s7x s8x from by rw [e9]; exact HN8.out.put HZ8.out)
    have HL9 : Hid (Below lo w0 W9) := Lib.hid (by rw [e9]; exact below_put HL8.out sl3)
    unfold putN at e9
    try dsimp only at e9
    rw [← e9]
    clear e9
    cases hs : sendOk XK P
    ·have HCN : Hid (cntTo n l (k + 1) = cntTo n l k) := Lib.hid (by rw [HC3.out, hs]; simp)
     refine (spec_l16Bit false _).mono ?_
     rintro e w3 ⟨rfl, rfl⟩
     go_wp2
     go_roundw
     case rel => exact ⟨k + 1, ⟨s1, s2, s3, s4, s5, s6, s7, s8, t1, t2, t3, t4, t5, t6, t7, t8⟩, s4x, s7x, s8x, by go_num, by rw [HCN.out], by omega, Lib.hid (by rw [HS3.out]; exact HN9.out), Lib.hid (by rw [HS3.out]; exact HB9.out), Lib.hid HL9.out⟩
     case measure => simp [intOf]; omega
    ·have HCN : Hid (cntTo n l (k + 1) = cntTo n l k + 1) := Lib.hid (by rw [HC3.out, hs]; simp)
     refine (spec_l16Bit true _).mono ?_
     rintro e w3 ⟨rfl, rfl⟩
     go_wp2
     go_roundw
     case rel => exact ⟨k + 1, ⟨s1, s2, s3, s4, s5, s6, s7, s8, t1, t2, t3, t4, t5, t6, t7, t8⟩, s4x, s7x, s8x, by go_num, by rw [HCN.out], by omega, Lib.hid (by rw [HS3.out]; exact HN9.out), Lib.hid (by rw [HS3.out]; exact HB9.out), Lib.hid HL9.out⟩
     case measure => simp [intOf]; omega
   ·obtain rfl : k = l.length := by omega
    have HZk : Hid (BN wk (w.heap.size + 1)) := Lib.hid (HZB.out.low HLk.out (by omega))
    have HWBk : Hid (Below w.heap.size w wk) := Lib.hid (bw_trans HHB.out HLk.out (by omega))
    have zzk := HLk.out.size
    obtain ⟨X, hX⟩ : ∃ X, sndTo n l l.length = X := ⟨_, rfl⟩
    obtain ⟨K, hK⟩ : ∃ K, cntTo n l l.length = K := ⟨_, rfl⟩
    rw [hX] at HNk HBk HE
    rw [hK] at HE
    try rw [hK]
    clear hX hK hcr
    have z0 : wk.cell? ⟨bx, 0, none⟩ = some (.int .i64 X.mesh.g.w) := HBk.out.box.get 0
    have z1 : wk.cell? ⟨bx, 1, none⟩ = some (.int .i64 X.mesh.g.h) := HBk.out.box.get 1
    have z2 : wk.cell? ⟨bx, 2, none⟩ = some (.slice p1 X.mesh.br.length r1) := HBk.out.box.get 2
    have z3 : wk.cell? ⟨bx, 3, none⟩ = some (.slice p2 X.pa.length r2) := HBk.out.box.get 3
    have z4 : wk.cell? ⟨bx, 4, none⟩ = some (.slice p3 X.pb.length r3) := HBk.out.box.get 4
    have z5 : wk.cell? ⟨bx, 5, none⟩ = some (.slice p4 X.bufs.length r4) := HBk.out.box.get 5
    have z6 : wk.cell? ⟨bx, 6, none⟩ = some (.slice p5 X.owners.length r5) := HBk.out.box.get 6
    have z7 : wk.cell? ⟨bx, 7, none⟩ = some (.slice p6 X.turns.length r6) := HBk.out.box.get 7
    have z8 : wk.cell? ⟨bx, 8, none⟩ = some (.slice p7 X.srcs.length r7) := HBk.out.box.get 8
    have z9 : wk.cell? ⟨bx, 9, none⟩ = some (.slice p8 X.arrs.length r8) := HBk.out.box.get 9
    have z10 : wk.cell? ⟨bx, 10, none⟩ = some (.int .i64 X.time) := HBk.out.box.get 10
    have zx : bx < wk.heap.size := HBk.out.lt

    obtain ⟨ry0, rv0⟩ := HZk.out.get 0 (by omega)
    have rz0 := HZk.out.frozen 0
    obtain ⟨ry1, rv1⟩ := HZk.out.get 1 (by omega)
    have rz1 := HZk.out.frozen 1
    obtain ⟨ry2, rv2⟩ := HZk.out.get 2 (by omega)
    have rz2 := HZk.out.frozen 2
    obtain ⟨ry3, rv3⟩ := HZk.out.get 3 (by omega)
    have rz3 := HZk.out.frozen 3
    obtain ⟨ry4, rv4⟩ := HZk.out.get 4 (by omega)
    have rz4 := HZk.out.frozen 4
    obtain ⟨ry5, rv5⟩ := HZk.out.get 5 (by omega)
    have rz5 := HZk.out.frozen 5
    obtain ⟨ry6, rv6⟩ := HZk.out.get 6 (by omega)
    have rz6 := HZk.out.frozen 6
    obtain ⟨ry7, rv7⟩ := HZk.out.get 7 (by omega)
    have rz7 := HZk.out.frozen 7
    obtain ⟨ry8, rv8⟩ := HZk.out.get 8 (by omega)
    have rz8 := HZk.out.frozen 8
    obtain ⟨ry9, rv9⟩ := HZk.out.get 9 (by omega)
    have rz9 := HZk.out.frozen 9
    obtain ⟨ry10, rv10⟩ := HZk.out.get 10 (by omega)
    have rz10 := HZk.out.frozen 10
    go_wp2
    obtain ⟨W9, e9⟩ : ∃ z, z = putN wk (w.heap.size + 1) X ⟨p1, p2, p3, p4, p5, p6, p7, p8, r1, r2, r3, r4, r5, r6, r7, r8⟩ := ⟨_, rfl⟩
    have HB9 : Hid (BT W9 (w.heap.size + 1) X ⟨p1, p2, p3, p4, p5, p6, p7, p8, r1, r2, r3, r4, r5, r6, r7, r8⟩) := Lib.hid (by rw [e9]; exact putN_BT HZk.out)
    have HN9 := Lib.hid (show NX W9 _ X ⟨p1, p2, p3, p4, p5, p6, p7, p8, r1, r2, r3, r4, r5, r6, r7, r8⟩ u4 u7 u8 from by rw [e9]; exact HNk.out.put HZk.out)
    have HL9 : Hid (Below w.heap.size w W9) := Lib.hid (by rw [e9]; exact below_put HWBk.out (by omega))
    unfold putN at e9
    try dsimp only at e9
    rw [← e9]
    clear e9
    exact bodyPost_ret (results_cell_row2 Tryz.results28 _ _ ((w.heap.size + 1)) 43 _ (0, 0) _ rfl HB9.out Tryz.underlying43 rfl (by kernel_rfl)) rfl (by dsimp only; rw [HE.out.1, HE.out.2]; exact ⟨⟨_, _, _, _, rfl, HN9.out.lower (by omega)⟩, HL9.out⟩)
end Go.Proofs.YteeebfeljjghhaaGreat
/- A law's arguments, opened: what the reading of an argument says of the cells that it reaches, for every world. -/
set_option linter.unusedVariables false
set_option linter.unusedSimpArgs false
namespace Go.Proofs.YteeebfeljjghhaaGreat
open Go.ChangeShapes Go.WideShapes Go.ChangeAt Go.RowKit Go.Proofs.YteeebfeljjghhaaGreatW.PrintWords
open NoC

theorem len1 {α : Type} {l : List α} (h : l.length = 1) : ∃ a, l = [a] := by match l, h with | [a], _ => exact ⟨a, rfl⟩
theorem len2 {α : Type} {l : List α} (h : l.length = 2) : ∃ a b, l = [a, b] := by match l, h with | [a, b], _ => exact ⟨a, b, rfl⟩
theorem len3 {α : Type} {l : List α} (h : l.length = 3) : ∃ a b c, l = [a, b, c] := by match l, h with | [a, b, c], _ => exact ⟨a, b, c, rfl⟩
theorem len5 {α : Type} {l : List α} (h : l.length = 5) : ∃ a b c d e, l = [a, b, c, d, e] := by match l, h with | [a, b, c, d, e], _ => exact ⟨a, b, c, d, e, rfl⟩
section
variable {H : Type} {enc : TypeId × Value → H} {W : World} {base : Nat} {spare : Nat → Bool} {held : Bool} {fuel : Nat} {cs : List Value} {x : DataW H × List MemPlace}
def Light (t : TypeId) (d : DataW H) : Prop := ∀ n ∈ d.weights Tryz.prog t, n ≤ reachBytes
theorem light_arg {ts : List TypeId} {ds : List (DataW H)} (h : (DataW.weightsEach Tryz.prog ts ds).all (· ≤ reachBytes) = true) {j : Nat} {t : TypeId} {d : DataW H} (ht : ts[j]? = some t) (hd : ds[j]? = some d) : Light t d :=
  fun n hn => by simpa using List.all_eq_true.1 h n (DataW.weights_mem_each ht hd n hn)
theorem light_field {t : TypeId} {fs : Array Field} {parts : List (DataW H)} (hu : Tryz.prog.underlying t = some (.struct fs)) (h : Light t (.agg parts)) {i : Nat} {f : Field} {d : DataW H} (hf : fs[i]? = some f) (hd : parts[i]? = some d) : Light f.type d :=
  fun n hn => h n (by
    unfold DataW.weights
    rw [hu]
    exact DataW.weights_mem_each (j := i) (by simp [hf]) hd n hn)
theorem op_int (h : DataW.trod enc Tryz.prog W base spare held fuel 3 cs = some x) : ∃ n, cs = [.int .i64 n] := by
  obtain ⟨n, h, _⟩ := DataW.trod_int Tryz.underlying3 h
  exact ⟨n, h⟩
theorem op_ints (h : DataW.trod enc Tryz.prog W base spare held fuel 24 cs = some x) (hl : Light 24 x.1) :
    ∃ A c, ∃ l : List Int, cs = [.slice A l.length c] ∧ Kd.C (Kd.int .i64) W A l.length l ∧ l.length ≤ 140737488355328 := by
  rcases open_ints Tryz.underlying24 Tryz.underlying3 (by kernel_rfl) h with ⟨rfl, _⟩ | ⟨a, len, cap, zs, rfl, _, hle, hm, hz, hx, hc, _⟩
  · exact ⟨none, 0, [], rfl, ⟨rfl, by decide, fun h => absurd h (by decide)⟩, by decide⟩
  · have hlen : len ≤ zs.length := by rw [hz]; split <;> omega
    have e : (zs.take len).length = len := by rw [List.length_take, Nat.min_eq_left hlen]
    have hb : len * 8 ≤ 140737488351232 := by
      subst hx
      have z := hl _ (by unfold DataW.weights; rw [show Tryz.prog.underlying 24 = _ from Tryz.underlying24]; exact List.mem_cons_self)
      rw [show Tryz.prog.bytesOf 3 = 8 by kernel_rfl] at z
      have hr : reachBytes = 140737488351232 := by decide
      have h1 : (lits (H := H) .i64 (zs.take len)).length = len := by simp [lits, hlen]
      rw [h1] at z
      omega
    refine ⟨some a, cap, zs.take len, by rw [e], ⟨rfl, by rw [e]; omega, fun _ => ⟨a, rfl, ?_⟩⟩, by rw [e]; omega⟩
    intro j p hj
    refine ⟨[.int .i64 p], rfl, rfl, ?_⟩
    intro i u hi
    obtain ⟨rfl, rfl⟩ : i = 0 ∧ u = .int .i64 p := by
      cases i with
      | zero => simp at hi; exact ⟨rfl, hi.symm⟩
      | succ i => simp at hi
    have hj2 := List.getElem?_eq_some_iff.1 hj
    obtain ⟨hj3, hj4⟩ := hj2
    have hj5 : j < zs.length := by omega
    have := hc j hj5
    rw [show j * (Kd.int .i64).sz + 0 = j by show j * 1 + 0 = j; omega, this]
    rw [List.getElem_take] at hj4
    simp [hj5, hj4]
theorem op_fields {t : TypeId} {fs : Array Field} (hu : Tryz.prog.underlying t = some (.struct fs)) (h : DataW.trod enc Tryz.prog W base spare held fuel t cs = some x) (hl : Light t x.1) :
    cs.length = Tryz.prog.cellsOf t ∧ ∀ (i : Nat) (f : Field), fs[i]? = some f → ∃ n y, DataW.trod enc Tryz.prog W base spare held n f.type ((cs.drop f.offset).take (Tryz.prog.cellsOf f.type)) = some y ∧ Light f.type y.1 := by
  obtain ⟨xs, n, _, rfl, hlen, hxs, hf⟩ := DataW.trod_struct hu h
  refine ⟨hlen, fun i f hi => ?_⟩
  have hlt : i < xs.length := by rw [hxs]; exact (Array.getElem?_eq_some_iff.1 hi).1
  have e := hf i f hi
  rw [List.getElem?_eq_getElem hlt] at e
  exact ⟨n, xs[i], e, light_field hu hl hi (by simp [hlt])⟩
theorem op_grid (h : DataW.trod enc Tryz.prog W base spare held fuel 23 cs = some x) (hl : Light 23 x.1) :
    ∃ g : Grid, cs = [.int .i64 g.w, .int .i64 g.h] := by
  obtain ⟨hlen, hf⟩ := op_fields Tryz.underlying23 h hl
  rw [show Tryz.prog.cellsOf 23 = 2 by kernel_rfl] at hlen
  obtain ⟨a0, a1, rfl⟩ : ∃ a0 a1, cs = [a0, a1] := len2 hlen
  obtain ⟨n0, y0, h0, l0⟩ := hf 0 _ rfl
  simp only [List.getElem_toArray, List.getElem_cons_zero, List.getElem_cons_succ] at h0 l0
  rw [show Tryz.prog.cellsOf 3 = 1 by kernel_rfl] at h0
  obtain ⟨i0, e0⟩ := op_int h0
  simp at e0
  obtain rfl := e0
  obtain ⟨n1, y1, h1, l1⟩ := hf 1 _ rfl
  simp only [List.getElem_toArray, List.getElem_cons_zero, List.getElem_cons_succ] at h1 l1
  rw [show Tryz.prog.cellsOf 3 = 1 by kernel_rfl] at h1
  obtain ⟨i1, e1⟩ := op_int h1
  simp at e1
  obtain rfl := e1
  exact ⟨⟨i0, i1⟩, rfl⟩
theorem op_mesh (h : DataW.trod enc Tryz.prog W base spare held fuel 26 cs = some x) (hl : Light 26 x.1) :
    ∃ (m : Mesh) (A : Option Addr) (c : Nat), cs = [.int .i64 m.g.w, .int .i64 m.g.h, .slice A m.br.length c] ∧ Kd.C (Kd.int .i64) W A m.br.length m.br ∧ m.br.length ≤ 140737488355328 := by
  obtain ⟨hlen, hf⟩ := op_fields Tryz.underlying26 h hl
  rw [show Tryz.prog.cellsOf 26 = 3 by kernel_rfl] at hlen
  obtain ⟨a0, a1, a2, rfl⟩ : ∃ a0 a1 a2, cs = [a0, a1, a2] := len3 hlen
  obtain ⟨n0, y0, h0, l0⟩ := hf 0 _ rfl
  simp only [List.getElem_toArray, List.getElem_cons_zero, List.getElem_cons_succ] at h0 l0
  rw [show Tryz.prog.cellsOf 23 = 2 by kernel_rfl] at h0
  obtain ⟨g0, e0⟩ := op_grid h0 l0
  simp at e0
  obtain ⟨rfl, rfl⟩ := e0
  obtain ⟨n1, y1, h1, l1⟩ := hf 1 _ rfl
  simp only [List.getElem_toArray, List.getElem_cons_zero, List.getElem_cons_succ] at h1 l1
  rw [show Tryz.prog.cellsOf 24 = 1 by kernel_rfl] at h1
  obtain ⟨A1, c1, r1, e1, hr1, hn1⟩ := op_ints h1 l1
  simp at e1
  obtain rfl := e1
  exact ⟨⟨g0, r1⟩, A1, c1, rfl, hr1, hn1⟩
theorem op_table (h : DataW.trod enc Tryz.prog W base spare held fuel 28 cs = some x) (hl : Light 28 x.1) :
    ∃ A c, ∃ l : List Int, cs = [.slice A l.length c] ∧ Kd.C (Kd.int .i64) W A l.length l ∧ l.length ≤ 140737488355328 := by
  obtain ⟨hlen, hf⟩ := op_fields Tryz.underlying28 h hl
  rw [show Tryz.prog.cellsOf 28 = 1 by kernel_rfl] at hlen
  obtain ⟨a0, rfl⟩ : ∃ a0, cs = [a0] := len1 hlen
  obtain ⟨n0, y0, h0, l0⟩ := hf 0 _ rfl
  simp only [List.getElem_toArray, List.getElem_cons_zero, List.getElem_cons_succ] at h0 l0
  rw [show Tryz.prog.cellsOf 24 = 1 by kernel_rfl] at h0
  obtain ⟨A0, c0, r0, e0, hr0, hn0⟩ := op_ints h0 l0
  simp at e0
  obtain rfl := e0
  exact ⟨A0, c0, r0, rfl, hr0, hn0⟩
theorem op_classes (h : DataW.trod enc Tryz.prog W base spare held fuel 30 cs = some x) (hl : Light 30 x.1) :
    ∃ A c, ∃ l : List Int, ∃ B d, ∃ k : List Int, cs = [.slice A l.length c, .slice B k.length d] ∧ Kd.C (Kd.int .i64) W A l.length l ∧ l.length ≤ 140737488355328 ∧ Kd.C (Kd.int .i64) W B k.length k ∧ k.length ≤ 140737488355328 := by
  obtain ⟨hlen, hf⟩ := op_fields Tryz.underlying30 h hl
  rw [show Tryz.prog.cellsOf 30 = 2 by kernel_rfl] at hlen
  obtain ⟨a0, a1, rfl⟩ : ∃ a0 a1, cs = [a0, a1] := len2 hlen
  obtain ⟨n0, y0, h0, l0⟩ := hf 0 _ rfl
  simp only [List.getElem_toArray, List.getElem_cons_zero, List.getElem_cons_succ] at h0 l0
  rw [show Tryz.prog.cellsOf 28 = 1 by kernel_rfl] at h0
  obtain ⟨A0, c0, r0, e0, hr0, hn0⟩ := op_table h0 l0
  simp at e0
  obtain rfl := e0
  obtain ⟨n1, y1, h1, l1⟩ := hf 1 _ rfl
  simp only [List.getElem_toArray, List.getElem_cons_zero, List.getElem_cons_succ] at h1 l1
  rw [show Tryz.prog.cellsOf 28 = 1 by kernel_rfl] at h1
  obtain ⟨A1, c1, r1, e1, hr1, hn1⟩ := op_table h1 l1
  simp at e1
  obtain rfl := e1
  exact ⟨A0, c0, r0, A1, c1, r1, rfl, hr0, hn0, hr1, hn1⟩
end
end Go.Proofs.YteeebfeljjghhaaGreat
/- A law's rows of records, opened: what the reading of an argument says of the cells that it reaches. -/
set_option linter.unusedVariables false
set_option linter.unusedSimpArgs false
namespace Go.Proofs.YteeebfeljjghhaaGreat
open Go.ChangeShapes Go.WideShapes Go.ChangeAt Go.RowKit Go.Proofs.YteeebfeljjghhaaGreatW.PrintWords
open NoC

theorem build_list {α : Type} {Q : Nat → α → Prop} : ∀ n : Nat, (∀ i, i < n → ∃ p, Q i p) → ∃ l : List α, l.length = n ∧ ∀ i p, l[i]? = some p → Q i p := by
  intro n
  induction n with
  | zero => intro _; exact ⟨[], rfl, fun i p h => by simp at h⟩
  | succ n ih =>
    intro h
    obtain ⟨l, hl, hq⟩ := ih (fun i hi => h i (by omega))
    obtain ⟨p, hp⟩ := h n (by omega)
    refine ⟨l ++ [p], by simp [hl], fun i q hi => ?_⟩
    by_cases hlt : i < n
    · rw [List.getElem?_append_left (by omega)] at hi
      exact hq i q hi
    · have hlen := (List.getElem?_eq_some_iff.1 hi).1
      have : i = n := by simp at hlen; omega
      subst this
      rw [List.getElem?_append_right (by omega), hl, Nat.sub_self] at hi
      simp at hi
      subst hi
      exact hp
section
variable {H : Type} {enc : TypeId × Value → H} {W : World} {base : Nat} {spare : Nat → Bool} {held : Bool} {fuel : Nat} {cs : List Value} {x : DataW H × List MemPlace}
theorem op_fields0 {t : TypeId} {fs : Array Field} (hu : Tryz.prog.underlying t = some (.struct fs)) (h : DataW.trod enc Tryz.prog W base spare held fuel t cs = some x) :
    cs.length = Tryz.prog.cellsOf t ∧ ∀ (i : Nat) (f : Field), fs[i]? = some f → ∃ n y, DataW.trod enc Tryz.prog W base spare held n f.type ((cs.drop f.offset).take (Tryz.prog.cellsOf f.type)) = some y := by
  obtain ⟨xs, n, _, rfl, hlen, hxs, hf⟩ := DataW.trod_struct hu h
  refine ⟨hlen, fun i f hi => ?_⟩
  have hlt : i < xs.length := by rw [hxs]; exact (Array.getElem?_eq_some_iff.1 hi).1
  have e := hf i f hi
  rw [List.getElem?_eq_getElem hlt] at e
  exact ⟨n, xs[i], e⟩
theorem op_rows {α : Type} {n : Nat} {en : α → List Value} {hl : ∀ x, (en x).length = n} {h1 : ∀ x, ∀ u ∈ en x, u.oneCell' = true} {t e : TypeId} {B : Nat} (hn : 0 < n) (ht : Tryz.prog.underlying t = some (.slice e)) (hc : Tryz.prog.cellsOf e = n) (hB : Tryz.prog.bytesOf e = B) (hB1 : 1 ≤ B)
    (hel : ∀ {fuel : Nat} {cs : List Value} {x : DataW H × List MemPlace}, DataW.trod enc Tryz.prog W base spare held fuel e cs = some x → ∃ p, cs = en p)
    (h : DataW.trod enc Tryz.prog W base spare held fuel t cs = some x) (hlg : Light t x.1) :
    ∃ A c, ∃ l : List α, cs = [.slice A l.length c] ∧ (Kd.flat n en hl h1).C W A l.length l ∧ l.length ≤ 140737488355328 := by
  rcases DataW.trod_slice ht h with ⟨rfl, _⟩ | ⟨a, len, cap, elems, rest, k, _, rfl, hx, hb, hle, hm, hlen, hels, _, _⟩
  · exact ⟨none, 0, [], rfl, ⟨rfl, by simp, fun h => absurd h (by simp)⟩, by simp⟩
  · have hbl : len * B ≤ 140737488351232 := by
      subst hx
      have z := hlg _ (by unfold DataW.weights; rw [ht]; exact List.mem_cons_self)
      rw [hB] at z
      have hr : reachBytes = 140737488351232 := by decide
      rw [hr] at z
      refine Nat.le_trans (Nat.mul_le_mul_right _ ?_) z
      simp [hlen]
    have hlm : len ≤ 140737488351232 := Nat.le_trans (Nat.le_mul_of_pos_right _ hB1) hbl
    obtain ⟨l, hll, hq⟩ := build_list (Q := fun i p => W.cells? base (a.add (i * n)) n = some (en p)) len (fun i hi => by
      have e := hels i hi
      rw [List.getElem?_eq_getElem (by omega), Option.bind_eq_some_iff] at e
      obtain ⟨c', hc', hd⟩ := e
      obtain ⟨p, rfl⟩ := hel hd
      rw [hc] at hc'
      exact ⟨p, hc'⟩)
    subst hll
    refine ⟨some a, cap, l, rfl, ⟨rfl, by omega, fun _ => ⟨a, rfl, ?_⟩⟩, by omega⟩
    intro j p hj
    refine ⟨en p, hl p, rfl, fun i u hi => ?_⟩
    have h2 := hq j p hj
    have hin : i < n := by
      have := (List.getElem?_eq_some_iff.1 hi).1
      rwa [hl] at this
    have h3 := (World.cells?_some h2).2.2 i hin
    rw [add_add] at h3
    show W.cell? (a.add (j * n + i)) = some u
    rw [h3, hi]
theorem op_packet0 (h : DataW.trod enc Tryz.prog W base spare held fuel 92 cs = some x) : ∃ p : Packet, cs = pkCells p := by
  obtain ⟨hlen, hf⟩ := op_fields0 Tryz.underlying92 h
  rw [show Tryz.prog.cellsOf 92 = 5 by kernel_rfl] at hlen
  obtain ⟨a0, a1, a2, a3, a4, rfl⟩ : ∃ a0 a1 a2 a3 a4, cs = [a0, a1, a2, a3, a4] := len5 hlen
  obtain ⟨n0, y0, h0⟩ := hf 0 _ rfl
  obtain ⟨n1, y1, h1⟩ := hf 1 _ rfl
  obtain ⟨n2, y2, h2⟩ := hf 2 _ rfl
  obtain ⟨n3, y3, h3⟩ := hf 3 _ rfl
  obtain ⟨n4, y4, h4⟩ := hf 4 _ rfl
  simp only [List.getElem_toArray, List.getElem_cons_zero, List.getElem_cons_succ] at h0 h1 h2 h3 h4
  rw [show Tryz.prog.cellsOf 3 = 1 by kernel_rfl] at h0 h1 h2 h3 h4
  obtain ⟨i0, e0⟩ := op_int h0
  obtain ⟨i1, e1⟩ := op_int h1
  obtain ⟨i2, e2⟩ := op_int h2
  obtain ⟨i3, e3⟩ := op_int h3
  obtain ⟨i4, e4⟩ := op_int h4
  simp at e0 e1 e2 e3 e4
  subst e0 e1 e2 e3 e4
  exact ⟨⟨i0, i1, i2, i3, i4⟩, rfl⟩
theorem op_packets (h : DataW.trod enc Tryz.prog W base spare held fuel 54 cs = some x) (hl : Light 54 x.1) :
    ∃ A c, ∃ l : List Packet, cs = [.slice A l.length c] ∧ kP.C W A l.length l ∧ l.length ≤ 140737488355328 :=
  op_rows (B := 40) (by omega) Tryz.underlying54 (by kernel_rfl) (by kernel_rfl) (by omega) (fun h => op_packet0 h) h hl
end
end Go.Proofs.YteeebfeljjghhaaGreat
/- A law's network: its measure, and what the reading of it says of its cells. -/
set_option linter.unusedVariables false
set_option linter.unusedSimpArgs false
namespace Go.Proofs.YteeebfeljjghhaaGreat
open Go.ChangeShapes Go.WideShapes Go.ChangeAt Go.RowKit Go.Proofs.YteeebfeljjghhaaGreatW.PrintWords
open NoC

theorem szN_says {n : Nat} {left : Int} (h1 : left ≤ 2097152) (h : 0 ≤ szN n left) : n ≤ 2097152 := by
  unfold szN at h
  split at h <;> omega
theorem szFlitS_any (l : List Flit) (left : Int) (A : Option Addr) (c : Nat) (w : World) (hl : l.length ≤ 9223372036854775807) (h0 : -1 ≤ left) (h1 : left ≤ 2097152) :
    Calls Tryz.prog 74 #[.slice A l.length c, .int .i64 left] w fun e w' => e = .returned (.int .i64 (szN l.length left)) ∧ w = w' := by
  go_enter Tryz.func74, Tryz.ntmps74
  by_cases h : left - l.length < 0
  · go_wp2
    go_ret
    exact ⟨ret_int (by simp [szN]; omega), rfl⟩
  · go_wp2
    go_ret
    exact ⟨ret_int (by simp [szN]; omega), rfl⟩
theorem szN_le {n : Nat} {left : Int} (h0 : -1 ≤ left) : szN n left ≤ left := by
  unfold szN
  split <;> omega
theorem szN_fits {n : Nat} {left : Int} (h : 0 ≤ szN n left) : (n : Int) ≤ left := by
  unfold szN at h
  split at h <;> omega
def Sz (left : Int) (p : Prop) (w w' : World) (e : Ending) : Prop := ∃ r : Int, e = .returned (.int .i64 r) ∧ -1 ≤ r ∧ r ≤ left ∧ Hid (0 ≤ r → p) ∧ Below w.heap.size w w'
theorem laws_szMesh' (m : Mesh) (left : Int) (A : Option Addr) (c : Nat) (w : World) (hl : m.br.length ≤ 140737488355328) (h0 : -1 ≤ left) (h1 : left ≤ 2097152) :
    Calls Tryz.prog 33 #[.agg #[.int .i64 m.g.w, .int .i64 m.g.h, .slice A m.br.length c], .int .i64 left] w fun e w' => Sz left (m.br.length ≤ 2097152) w w' e :=
  (laws_szMesh m left A c w hl h0 h1).mono fun e w' ⟨he, hb⟩ => ⟨_, he, (szN_range h0 h1).1, szN_le h0, Lib.hid (szN_says h1), hb⟩
theorem laws_szClasses' (pa pb : List Int) (left : Int) (A B : Option Addr) (c d : Nat) (w : World) (hl : pa.length ≤ 140737488355328) (hm : pb.length ≤ 140737488355328) (h0 : -1 ≤ left) (h1 : left ≤ 2097152) :
    Calls Tryz.prog 34 #[.agg #[.slice A pa.length c, .slice B pb.length d], .int .i64 left] w fun e w' => Sz left (pa.length ≤ 2097152 ∧ pb.length ≤ 2097152) w w' e :=
  (laws_szClasses pa pb left A B c d w hl hm h0 h1).mono fun e w' ⟨he, hb⟩ => by
    have r1 := szN_range (n := pa.length) h0 h1
    have r2 := szN_range (n := pb.length) r1.1 r1.2
    have s1 := szN_le (n := pa.length) h0
    have s2 := szN_le (n := pb.length) r1.1
    refine ⟨_, he, ?_, ?_, Lib.hid ?_, hb⟩
    · unfold szClsI; split <;> omega
    · unfold szClsI; split <;> omega
    · unfold szClsI
      split
      · omega
      · intro h
        exact ⟨szN_says h1 (by omega), szN_says r1.2 h⟩
theorem laws_szIntS' (l : List Int) (left : Int) (A : Option Addr) (c : Nat) (w : World) (hl : l.length ≤ 140737488355328) (h0 : -1 ≤ left) (h1 : left ≤ 2097152) :
    Calls Tryz.prog 36 #[.slice A l.length c, .int .i64 left] w fun e w' => Sz left (l.length ≤ 2097152) w w' e :=
  (laws_szIntS l left A c w hl h0 h1).mono fun e w' ⟨he, hw⟩ => ⟨_, he, (szN_range h0 h1).1, szN_le h0, Lib.hid (szN_says h1), bw_self hw⟩
theorem C_max {α : Type} {d : Kd α} {w : World} {A : Option Addr} {n : Nat} {l : List α} (h : d.C w A n l) : n ≤ 9223372036854775807 := h.2.1
set_option maxHeartbeats 1000000 in
theorem laws_szFlitSS (l : List (List Flit)) (left : Int) (A : Option Addr) (c : Nat) (w : World) (hr : (kB 103).C w A l.length l) (h0 : -1 ≤ left) (h1 : left ≤ 2097152) :
    Calls Tryz.prog 35 #[.slice A l.length c, .int .i64 left] w fun e w' => Sz left (l.length ≤ 2097152 ∧ (∀ x ∈ l, x.length ≤ 2097152) ∧ ∀ x ∈ l, (x.length : Int) ≤ left) w w' e := by
  have hmax := C_max hr
  go_enter Tryz.func35, Tryz.ntmps35
  by_cases h : left - l.length < 0
  · go_wp2
    go_ret
    exact ⟨-1, rfl, by omega, by omega, Lib.hid (fun h => absurd h (by omega)), bel⟩
  · go_wp2
    go_loopw [5, 1] (fun i r wr => ∃ (k : Nat) (x : Int), i = .int .i64 k ∧ r = .int .i64 x ∧ k ≤ l.length ∧ 0 ≤ x ∧ x ≤ left ∧ Hid (∀ j : Nat, j < k → ((rl l j).length : Int) ≤ left) ∧ wr = w) (fun i _ _ => l.length - (intOf i).toNat)
    case atStart => exact ⟨0, _, rfl, rfl, Nat.zero_le _, by omega, by omega, Lib.hid fun j h => absurd h (Nat.not_lt_zero _), rfl⟩
    case round =>
      obtain ⟨k, x, rfl, rfl, hk, x0, x1, HA, rfl⟩ := hrel
      by_cases hlt : k < l.length
      · obtain ⟨b, off, rfl, hb, Ai, ci, p0, hle, hCi⟩ := rdB_at hr k hlt
        have hmi := C_max hCi
        have y1 := szN_range (n := (rl l k).length) (left := x) (by omega) (by omega)
        by_cases hn : szN (rl l k).length x < 0
        · go_wp2_with (go_at_call 74; refine (szFlitS_any (rl l k) x Ai ci _ hmi (by omega) (by omega)).mono ?_; rintro e w' ⟨rfl, rfl⟩)
          go_ret
          exact ⟨-1, rfl, by omega, by omega, Lib.hid (fun h => absurd h (by omega)), bel⟩
        · have hs := szN_fits (show 0 ≤ szN (rl l k).length x by omega)
          have hle2 := szN_le (n := (rl l k).length) (left := x) (by omega)
          have HS2 : Hid (∀ j : Nat, j < k + 1 → ((rl l j).length : Int) ≤ left) := Lib.hid (fun j hj => by
            rcases Nat.lt_or_ge j k with h1 | h1
            · exact HA.out j h1
            · obtain rfl : j = k := by omega
              omega)
          go_wp2_with (go_at_call 74; refine (szFlitS_any (rl l k) x Ai ci _ hmi (by omega) (by omega)).mono ?_; rintro e w' ⟨rfl, rfl⟩)
          go_roundw
          case rel => exact ⟨k + 1, _, by go_num, rfl, by omega, by omega, by omega, Lib.hid HS2.out, by trivial⟩
          case measure => simp [intOf]; omega
      · go_wp2
        go_ret
        have hall : ∀ y ∈ l, (y.length : Int) ≤ left := fun y hy => by
          obtain ⟨j, hj, rfl⟩ := List.getElem_of_mem hy
          have := HA.out j (by omega)
          simpa [rl, List.getD_eq_getElem?_getD, hj] using this
        exact ⟨x, rfl, by omega, x1, Lib.hid (fun _ => ⟨by omega, fun y hy => by have := hall y hy; omega, hall⟩), bel⟩
structure NetC (w : World) (n : Net) (q : NA) : Prop where
  br : Kd.C (Kd.int .i64) w q.a1 n.mesh.br.length n.mesh.br
  pa : Kd.C (Kd.int .i64) w q.a2 n.pa.length n.pa
  pb : Kd.C (Kd.int .i64) w q.a3 n.pb.length n.pb
  bufs : (kB 103).C w q.a4 n.bufs.length n.bufs
  owners : Kd.C (Kd.int .i64) w q.a5 n.owners.length n.owners
  turns : Kd.C (Kd.int .i64) w q.a6 n.turns.length n.turns
  srcs : (kB 103).C w q.a7 n.srcs.length n.srcs
  arrs : (kB 103).C w q.a8 n.arrs.length n.arrs
  h1 : n.mesh.br.length ≤ 140737488355328
  h2 : n.pa.length ≤ 140737488355328
  h3 : n.pb.length ≤ 140737488355328
  h5 : n.owners.length ≤ 140737488355328
  h6 : n.turns.length ≤ 140737488355328
theorem NetC.below {w w1 : World} {n : Net} {q : NA} (h : NetC w n q) (hb : Below w.heap.size w w1) : NetC w1 n q :=
  ⟨Kd.C_below h.br hb, Kd.C_below h.pa hb, Kd.C_below h.pb hb, Kd.C_below h.bufs hb, Kd.C_below h.owners hb, Kd.C_below h.turns hb, Kd.C_below h.srcs hb, Kd.C_below h.arrs hb, h.h1, h.h2, h.h3, h.h5, h.h6⟩
structure NetB (n : Net) : Prop where
  h1 : n.mesh.br.length ≤ 2097152
  h2 : n.pa.length ≤ 2097152
  h3 : n.pb.length ≤ 2097152
  h4 : n.bufs.length ≤ 2097152
  h5 : n.owners.length ≤ 2097152
  h6 : n.turns.length ≤ 2097152
  h7 : n.srcs.length ≤ 2097152
  h8 : n.arrs.length ≤ 2097152
  h9 : ∀ l ∈ n.bufs, l.length ≤ 2097152
  h10 : ∀ l ∈ n.srcs, l.length ≤ 2097152
  h11 : ∀ l ∈ n.arrs, l.length ≤ 2097152
theorem NetC.bound {w : World} {n : Net} {q : NA} (h : NetC w n q) (b : NetB n) : NetR 103 w n q :=
  ⟨h.br, h.pa, h.pb, h.bufs, h.owners, h.turns, h.srcs, h.arrs, b.h1, b.h2, b.h3, b.h4, b.h5, b.h6, b.h7, b.h8, b.h9, b.h10, b.h11⟩
set_option maxHeartbeats 4000000 in
set_option maxRecDepth 100000 in
theorem laws_szNet (n : Net) (q : NA) (left : Int) (w : World) (hr : NetC w n q) (h0 : -1 ≤ left) (h1 : left ≤ 2097152) :
    Calls Tryz.prog 10 #[.agg (netCells n q), .int .i64 left] w fun e w' => Sz left (NetB n ∧ ∀ l ∈ n.arrs, (l.length : Int) ≤ left) w w' e := by
  have H := Lib.hid hr
  clear hr
  unfold netCells
  go_enter Tryz.func10, Tryz.ntmps10
  go_wp2_with fail
  refine (laws_szMesh' n.mesh left q.a1 q.c1 _ H.out.h1 h0 h1).mono ?_
  rintro e w1 ⟨r1, rfl, x1, y1, K1, hb1⟩
  obtain ⟨hc1, hf1, hz1⟩ := bcell hb1; (try simp only [szs] at hz1); have hb2 := (by first | exact bw_then hb2 hb1 | exact bw_then (bw_drewN _ hb2) hb1 | exact bw_then (bw_alloc _ hb2) hb1 | exact bw_then (bw_drew hb2) hb1 | exact bw_then HB hb1 | exact bw_then (bw_drewN _ HB) hb1 | exact bw_then (bw_alloc _ HB) hb1 | exact bw_then (bw_drew HB) hb1 | exact hb1); obtain ⟨hc2, hf2, hz2⟩ := bcell hb2; (try simp only [szs] at hz2); try (first | obtain ⟨hy1, hy2, hy3, hy4⟩ := lts4 hz2 | obtain ⟨hy1, hy2, hy3⟩ := lts3 hz2 | obtain ⟨hy1, hy2⟩ := lts2 hz2 | have hy1 := lts1 hz2); have hb9 := hb1
  by_cases n1 : r1 < 0
  · go_wp2
    go_ret
    exact ⟨-1, rfl, by omega, by omega, Lib.hid (fun h => absurd h (by omega)), bel⟩
  go_wp2_with fail
  refine (laws_szClasses' n.pa n.pb r1 q.a2 q.a3 q.c2 q.c3 _ H.out.h2 H.out.h3 x1 (by omega)).mono ?_
  rintro e w2 ⟨r2, rfl, x2, y2, K2, hb1⟩
  obtain ⟨hc1, hf1, hz1⟩ := bcell hb1; (try simp only [szs] at hz1); have hb2 := (by first | exact bw_then hb2 hb1 | exact bw_then (bw_drewN _ hb2) hb1 | exact bw_then (bw_alloc _ hb2) hb1 | exact bw_then (bw_drew hb2) hb1 | exact bw_then HB hb1 | exact bw_then (bw_drewN _ HB) hb1 | exact bw_then (bw_alloc _ HB) hb1 | exact bw_then (bw_drew HB) hb1 | exact hb1); obtain ⟨hc2, hf2, hz2⟩ := bcell hb2; (try simp only [szs] at hz2); try (first | obtain ⟨hy1, hy2, hy3, hy4⟩ := lts4 hz2 | obtain ⟨hy1, hy2, hy3⟩ := lts3 hz2 | obtain ⟨hy1, hy2⟩ := lts2 hz2 | have hy1 := lts1 hz2); have hb9 := hb1
  by_cases n2 : r2 < 0
  · go_wp2
    go_ret
    exact ⟨-1, rfl, by omega, by omega, Lib.hid (fun h => absurd h (by omega)), bel⟩
  go_wp2_with fail
  refine (laws_szFlitSS n.bufs r2 q.a4 q.c4 _ (by exact Kd.C_below H.out.bufs bel) x2 (by omega)).mono ?_
  rintro e w3 ⟨r3, rfl, x3, y3, K3, hb1⟩
  obtain ⟨hc1, hf1, hz1⟩ := bcell hb1; (try simp only [szs] at hz1); have hb2 := (by first | exact bw_then hb2 hb1 | exact bw_then (bw_drewN _ hb2) hb1 | exact bw_then (bw_alloc _ hb2) hb1 | exact bw_then (bw_drew hb2) hb1 | exact bw_then HB hb1 | exact bw_then (bw_drewN _ HB) hb1 | exact bw_then (bw_alloc _ HB) hb1 | exact bw_then (bw_drew HB) hb1 | exact hb1); obtain ⟨hc2, hf2, hz2⟩ := bcell hb2; (try simp only [szs] at hz2); try (first | obtain ⟨hy1, hy2, hy3, hy4⟩ := lts4 hz2 | obtain ⟨hy1, hy2, hy3⟩ := lts3 hz2 | obtain ⟨hy1, hy2⟩ := lts2 hz2 | have hy1 := lts1 hz2); have hb9 := hb1
  by_cases n3 : r3 < 0
  · go_wp2
    go_ret
    exact ⟨-1, rfl, by omega, by omega, Lib.hid (fun h => absurd h (by omega)), bel⟩
  go_wp2_with fail
  refine (laws_szIntS' n.owners r3 q.a5 q.c5 _ H.out.h5 x3 (by omega)).mono ?_
  rintro e w4 ⟨r4, rfl, x4, y4, K4, hb1⟩
  obtain ⟨hc1, hf1, hz1⟩ := bcell hb1; (try simp only [szs] at hz1); have hb2 := (by first | exact bw_then hb2 hb1 | exact bw_then (bw_drewN _ hb2) hb1 | exact bw_then (bw_alloc _ hb2) hb1 | exact bw_then (bw_drew hb2) hb1 | exact bw_then HB hb1 | exact bw_then (bw_drewN _ HB) hb1 | exact bw_then (bw_alloc _ HB) hb1 | exact bw_then (bw_drew HB) hb1 | exact hb1); obtain ⟨hc2, hf2, hz2⟩ := bcell hb2; (try simp only [szs] at hz2); try (first | obtain ⟨hy1, hy2, hy3, hy4⟩ := lts4 hz2 | obtain ⟨hy1, hy2, hy3⟩ := lts3 hz2 | obtain ⟨hy1, hy2⟩ := lts2 hz2 | have hy1 := lts1 hz2); have hb9 := hb1
  by_cases n4 : r4 < 0
  · go_wp2
    go_ret
    exact ⟨-1, rfl, by omega, by omega, Lib.hid (fun h => absurd h (by omega)), bel⟩
  go_wp2_with fail
  refine (laws_szIntS' n.turns r4 q.a6 q.c6 _ H.out.h6 x4 (by omega)).mono ?_
  rintro e w5 ⟨r5, rfl, x5, y5, K5, hb1⟩
  obtain ⟨hc1, hf1, hz1⟩ := bcell hb1; (try simp only [szs] at hz1); have hb2 := (by first | exact bw_then hb2 hb1 | exact bw_then (bw_drewN _ hb2) hb1 | exact bw_then (bw_alloc _ hb2) hb1 | exact bw_then (bw_drew hb2) hb1 | exact bw_then HB hb1 | exact bw_then (bw_drewN _ HB) hb1 | exact bw_then (bw_alloc _ HB) hb1 | exact bw_then (bw_drew HB) hb1 | exact hb1); obtain ⟨hc2, hf2, hz2⟩ := bcell hb2; (try simp only [szs] at hz2); try (first | obtain ⟨hy1, hy2, hy3, hy4⟩ := lts4 hz2 | obtain ⟨hy1, hy2, hy3⟩ := lts3 hz2 | obtain ⟨hy1, hy2⟩ := lts2 hz2 | have hy1 := lts1 hz2); have hb9 := hb1
  by_cases n5 : r5 < 0
  · go_wp2
    go_ret
    exact ⟨-1, rfl, by omega, by omega, Lib.hid (fun h => absurd h (by omega)), bel⟩
  go_wp2_with fail
  refine (laws_szFlitSS n.srcs r5 q.a7 q.c7 _ (by exact Kd.C_below H.out.srcs bel) x5 (by omega)).mono ?_
  rintro e w6 ⟨r6, rfl, x6, y6, K6, hb1⟩
  obtain ⟨hc1, hf1, hz1⟩ := bcell hb1; (try simp only [szs] at hz1); have hb2 := (by first | exact bw_then hb2 hb1 | exact bw_then (bw_drewN _ hb2) hb1 | exact bw_then (bw_alloc _ hb2) hb1 | exact bw_then (bw_drew hb2) hb1 | exact bw_then HB hb1 | exact bw_then (bw_drewN _ HB) hb1 | exact bw_then (bw_alloc _ HB) hb1 | exact bw_then (bw_drew HB) hb1 | exact hb1); obtain ⟨hc2, hf2, hz2⟩ := bcell hb2; (try simp only [szs] at hz2); try (first | obtain ⟨hy1, hy2, hy3, hy4⟩ := lts4 hz2 | obtain ⟨hy1, hy2, hy3⟩ := lts3 hz2 | obtain ⟨hy1, hy2⟩ := lts2 hz2 | have hy1 := lts1 hz2); have hb9 := hb1
  by_cases n6 : r6 < 0
  · go_wp2
    go_ret
    exact ⟨-1, rfl, by omega, by omega, Lib.hid (fun h => absurd h (by omega)), bel⟩
  go_wp2_with fail
  refine (laws_szFlitSS n.arrs r6 q.a8 q.c8 _ (by exact Kd.C_below H.out.arrs bel) x6 (by omega)).mono ?_
  rintro e w7 ⟨r7, rfl, x7, y7, K7, hb1⟩
  obtain ⟨hc1, hf1, hz1⟩ := bcell hb1; (try simp only [szs] at hz1); have hb2 := (by first | exact bw_then hb2 hb1 | exact bw_then (bw_drewN _ hb2) hb1 | exact bw_then (bw_alloc _ hb2) hb1 | exact bw_then (bw_drew hb2) hb1 | exact bw_then HB hb1 | exact bw_then (bw_drewN _ HB) hb1 | exact bw_then (bw_alloc _ HB) hb1 | exact bw_then (bw_drew HB) hb1 | exact hb1); obtain ⟨hc2, hf2, hz2⟩ := bcell hb2; (try simp only [szs] at hz2); try (first | obtain ⟨hy1, hy2, hy3, hy4⟩ := lts4 hz2 | obtain ⟨hy1, hy2, hy3⟩ := lts3 hz2 | obtain ⟨hy1, hy2⟩ := lts2 hz2 | have hy1 := lts1 hz2); have hb9 := hb1
  by_cases n7 : r7 < 0
  · go_wp2
    go_ret
    exact ⟨-1, rfl, by omega, by omega, Lib.hid (fun h => absurd h (by omega)), bel⟩
  go_wp2
  go_ret
  exact ⟨r7, rfl, x7, by omega, Lib.hid (fun _ => ⟨⟨K1.out (by omega), (K2.out (by omega)).1, (K2.out (by omega)).2, (K3.out (by omega)).1, K4.out (by omega), K5.out (by omega), (K6.out (by omega)).1, (K7.out (by omega)).1, (K3.out (by omega)).2.1, (K6.out (by omega)).2.1, (K7.out (by omega)).2.1⟩, fun l hl => by have := (K7.out (by omega)).2.2 l hl; omega⟩), bel⟩
section
variable {H : Type} {enc : TypeId × Value → H} {W : World} {base : Nat} {spare : Nat → Bool} {held : Bool} {fuel : Nat} {cs : List Value} {x : DataW H × List MemPlace}
theorem op_bool (h : DataW.trod enc Tryz.prog W base spare held fuel 4 cs = some x) : ∃ b, cs = [.bool b] := by
  obtain ⟨b, h, _⟩ := DataW.trod_bool Tryz.underlying4 h
  exact ⟨b, h⟩
theorem op_flit0 (h : DataW.trod enc Tryz.prog W base spare held fuel 138 cs = some x) : ∃ p : Flit, cs = fCells p := by
  obtain ⟨hlen, hf⟩ := op_fields0 Tryz.underlying138 h
  rw [show Tryz.prog.cellsOf 138 = 5 by kernel_rfl] at hlen
  obtain ⟨a0, a1, a2, a3, a4, rfl⟩ : ∃ a0 a1 a2 a3 a4, cs = [a0, a1, a2, a3, a4] := len5 hlen
  obtain ⟨n0, y0, h0⟩ := hf 0 _ rfl
  obtain ⟨n1, y1, h1⟩ := hf 1 _ rfl
  obtain ⟨n2, y2, h2⟩ := hf 2 _ rfl
  obtain ⟨n3, y3, h3⟩ := hf 3 _ rfl
  obtain ⟨n4, y4, h4⟩ := hf 4 _ rfl
  simp only [List.getElem_toArray, List.getElem_cons_zero, List.getElem_cons_succ] at h0 h1 h2 h3 h4
  rw [show Tryz.prog.cellsOf 3 = 1 by kernel_rfl] at h0 h1 h2
  rw [show Tryz.prog.cellsOf 4 = 1 by kernel_rfl] at h3 h4
  obtain ⟨i0, e0⟩ := op_int h0
  obtain ⟨i1, e1⟩ := op_int h1
  obtain ⟨i2, e2⟩ := op_int h2
  obtain ⟨i3, e3⟩ := op_bool h3
  obtain ⟨i4, e4⟩ := op_bool h4
  simp at e0 e1 e2 e3 e4
  subst e0 e1 e2 e3 e4
  exact ⟨⟨i0, i1, i2, i3, i4⟩, rfl⟩
theorem op_rows0 {α : Type} {n : Nat} {en : α → List Value} {hl : ∀ x, (en x).length = n} {h1 : ∀ x, ∀ u ∈ en x, u.oneCell' = true} {t e : TypeId} (ht : Tryz.prog.underlying t = some (.slice e)) (hc : Tryz.prog.cellsOf e = n)
    (hel : ∀ {fuel : Nat} {cs : List Value} {x : DataW H × List MemPlace}, DataW.trod enc Tryz.prog W base spare held fuel e cs = some x → ∃ p, cs = en p)
    (h : DataW.trod enc Tryz.prog W base spare held fuel t cs = some x) :
    ∃ A c, ∃ l : List α, cs = [.slice A l.length c] ∧ l.length ≤ c ∧ (Kd.flat n en hl h1).C W A l.length l := by
  rcases DataW.trod_slice ht h with ⟨rfl, _⟩ | ⟨a, len, cap, elems, rest, k, _, rfl, hx, hb, hle, hm, hlen, hels, _, _⟩
  · exact ⟨none, 0, [], rfl, Nat.le_refl _, ⟨rfl, by simp, fun h => absurd h (by simp)⟩⟩
  · obtain ⟨l, hll, hq⟩ := build_list (Q := fun i p => W.cells? base (a.add (i * n)) n = some (en p)) len (fun i hi => by
      have e := hels i hi
      rw [List.getElem?_eq_getElem (by omega), Option.bind_eq_some_iff] at e
      obtain ⟨c', hc', hd⟩ := e
      obtain ⟨p, rfl⟩ := hel hd
      rw [hc] at hc'
      exact ⟨p, hc'⟩)
    subst hll
    refine ⟨some a, cap, l, rfl, hle, ⟨rfl, by simp only [maxLen] at hm; omega, fun _ => ⟨a, rfl, ?_⟩⟩⟩
    intro j p hj
    refine ⟨en p, hl p, rfl, fun i u hi => ?_⟩
    have h2 := hq j p hj
    have hin : i < n := by
      have := (List.getElem?_eq_some_iff.1 hi).1
      rwa [hl] at this
    have h3 := (World.cells?_some h2).2.2 i hin
    rw [add_add] at h3
    show W.cell? (a.add (j * n + i)) = some u
    rw [h3, hi]
theorem op_flits0 (h : DataW.trod enc Tryz.prog W base spare held fuel 97 cs = some x) : ∃ A c, ∃ l : List Flit, cs = [.slice A l.length c] ∧ l.length ≤ c ∧ kF.C W A l.length l :=
  op_rows0 Tryz.underlying97 (by kernel_rfl) (fun h => op_flit0 h) h
theorem op_flitss (h : DataW.trod enc Tryz.prog W base spare held fuel 31 cs = some x) : ∃ A c, ∃ l : List (List Flit), cs = [.slice A l.length c] ∧ (kB 103).C W A l.length l := by
  rcases DataW.trod_slice Tryz.underlying31 h with ⟨rfl, _⟩ | ⟨a, len, cap, elems, rest, k, _, rfl, hx, hb, hle, hm, hlen, hels, _, _⟩
  · exact ⟨none, 0, [], rfl, ⟨rfl, by simp, fun h => absurd h (by simp)⟩⟩
  · obtain ⟨l, hll, hq⟩ := build_list (Q := fun i (p : List Flit) => ∃ A c, W.cells? base (a.add (i * 1)) 1 = some [.slice A p.length c] ∧ p.length ≤ c ∧ kF.C W A p.length p) len (fun i hi => by
      have e := hels i hi
      rw [List.getElem?_eq_getElem (by omega), Option.bind_eq_some_iff] at e
      obtain ⟨c', hc', hd⟩ := e
      obtain ⟨A, c, p, rfl, hpc, hC⟩ := op_flits0 hd
      rw [show Tryz.prog.cellsOf 97 = 1 by kernel_rfl] at hc'
      exact ⟨p, A, c, hc', hpc, hC⟩)
    subst hll
    refine ⟨some a, cap, l, rfl, ⟨rfl, by simp only [maxLen] at hm; omega, fun _ => ⟨a, rfl, ?_⟩⟩⟩
    intro j p hj
    obtain ⟨A, c, h2, hpc, hC⟩ := hq j p hj
    refine ⟨[.slice A p.length c], rfl, ⟨A, c, rfl, hpc, hC⟩, fun i u hi => ?_⟩
    have hin : i < 1 := by
      have := (List.getElem?_eq_some_iff.1 hi).1
      simpa using this
    have h3 := (World.cells?_some h2).2.2 i hin
    rw [add_add] at h3
    show W.cell? (a.add (j * 1 + i)) = some u
    rw [h3, hi]
theorem len8 {α : Type} {l : List α} (h : l.length = 11) : ∃ a b c d e f g i j k m, l = [a, b, c, d, e, f, g, i, j, k, m] := by match l, h with | [a, b, c, d, e, f, g, i, j, k, m], _ => exact ⟨a, b, c, d, e, f, g, i, j, k, m, rfl⟩
set_option maxHeartbeats 1000000 in
/-- A network at a law's door. -/
theorem op_net (h : DataW.trod enc Tryz.prog W base spare held fuel 33 cs = some x) (hl : Light 33 x.1) : ∃ (n : Net) (q : NA), cs = (netCells n q).toList ∧ NetC W n q := by
  obtain ⟨hlen, hf⟩ := op_fields Tryz.underlying33 h hl
  rw [show Tryz.prog.cellsOf 33 = 11 by kernel_rfl] at hlen
  obtain ⟨a0, a1, a2, a3, a4, a5, a6, a7, a8, a9, a10, rfl⟩ := len8 hlen
  obtain ⟨n0, y0, h0, l0⟩ := hf 0 _ rfl
  simp only [List.getElem_toArray, List.getElem_cons_zero, List.getElem_cons_succ] at h0 l0
  rw [show Tryz.prog.cellsOf 26 = 3 by kernel_rfl] at h0
  obtain ⟨n1, y1, h1, l1⟩ := hf 1 _ rfl
  simp only [List.getElem_toArray, List.getElem_cons_zero, List.getElem_cons_succ] at h1 l1
  rw [show Tryz.prog.cellsOf 30 = 2 by kernel_rfl] at h1
  obtain ⟨n2, y2, h2, l2⟩ := hf 2 _ rfl
  simp only [List.getElem_toArray, List.getElem_cons_zero, List.getElem_cons_succ] at h2 l2
  rw [show Tryz.prog.cellsOf 31 = 1 by kernel_rfl] at h2
  obtain ⟨n3, y3, h3, l3⟩ := hf 3 _ rfl
  simp only [List.getElem_toArray, List.getElem_cons_zero, List.getElem_cons_succ] at h3 l3
  rw [show Tryz.prog.cellsOf 24 = 1 by kernel_rfl] at h3
  obtain ⟨n4, y4, h4, l4⟩ := hf 4 _ rfl
  simp only [List.getElem_toArray, List.getElem_cons_zero, List.getElem_cons_succ] at h4 l4
  rw [show Tryz.prog.cellsOf 24 = 1 by kernel_rfl] at h4
  obtain ⟨n5, y5, h5, l5⟩ := hf 5 _ rfl
  simp only [List.getElem_toArray, List.getElem_cons_zero, List.getElem_cons_succ] at h5 l5
  rw [show Tryz.prog.cellsOf 31 = 1 by kernel_rfl] at h5
  obtain ⟨n6, y6, h6, l6⟩ := hf 6 _ rfl
  simp only [List.getElem_toArray, List.getElem_cons_zero, List.getElem_cons_succ] at h6 l6
  rw [show Tryz.prog.cellsOf 31 = 1 by kernel_rfl] at h6
  obtain ⟨n7, y7, h7, l7⟩ := hf 7 _ rfl
  simp only [List.getElem_toArray, List.getElem_cons_zero, List.getElem_cons_succ] at h7 l7
  rw [show Tryz.prog.cellsOf 3 = 1 by kernel_rfl] at h7
  obtain ⟨m, A1, c1, e0, hr1, hn1⟩ := op_mesh h0 l0
  simp at e0
  obtain ⟨rfl, rfl, rfl⟩ := e0
  obtain ⟨A2, c2, pa, A3, c3, pb, e1, hr2, hn2, hr3, hn3⟩ := op_classes h1 l1
  simp at e1
  obtain ⟨rfl, rfl⟩ := e1
  obtain ⟨A4, c4, bufs, e2, hr4⟩ := op_flitss h2
  obtain ⟨A5, c5, owners, e3, hr5, hn5⟩ := op_ints h3 l3
  obtain ⟨A6, c6, turns, e4, hr6, hn6⟩ := op_ints h4 l4
  obtain ⟨A7, c7, srcs, e5, hr7⟩ := op_flitss h5
  obtain ⟨A8, c8, arrs, e6, hr8⟩ := op_flitss h6
  obtain ⟨tm, e7⟩ := op_int h7
  simp at e2 e3 e4 e5 e6 e7
  subst e2 e3 e4 e5 e6 e7
  exact ⟨⟨m, pa, pb, bufs, owners, turns, srcs, arrs, tm⟩, ⟨A1, A2, A3, A4, A5, A6, A7, A8, c1, c2, c3, c4, c5, c6, c7, c8⟩, rfl, ⟨hr1, hr2, hr3, hr4, hr5, hr6, hr7, hr8, hn1, hn2, hn3, hn5, hn6⟩⟩
end
end Go.Proofs.YteeebfeljjghhaaGreat
/- Networks of one's own: copied by the laws, marked by them. -/
set_option linter.unusedVariables false
set_option linter.unusedSimpArgs false
namespace Go.Proofs.YteeebfeljjghhaaGreat
open Go.RowKit Go.Proofs.YteeebfeljjghhaaGreatW.PrintWords
open NoC

theorem RU.off {α : Type} {d : Kd α} {e : Nat} {w : World} {lo hi : Nat} {v : Value} {xs : List α} (h : RU d e w lo hi v xs) {g : Nat} (hg : g < lo) (j : Nat) (u : Value) : RU d e (w.setCell ⟨g, j, none⟩ u) lo hi v xs :=
  h.step (fun k h1 _ _ => Below.heap_setCell w ⟨g, j, none⟩ u k (by show k ≠ g; omega))
theorem OB.off {w : World} {lo hi : Nat} {v : Value} {l : List (List Flit)} {vs : List Value} (h : OB w lo hi v l vs) {g : Nat} (hg : g < lo) (j : Nat) (u : Value) : OB (w.setCell ⟨g, j, none⟩ u) lo hi v l vs :=
  h.step (fun k h1 _ _ => Below.heap_setCell w ⟨g, j, none⟩ u k (by show k ≠ g; omega))
theorem RU.bel {α : Type} {d : Kd α} {e : Nat} {w w1 : World} {lo hi : Nat} {v : Value} {xs : List α} (hb : Below w.heap.size w w1) (h : RU d e w lo hi v xs) : RU d e w1 lo hi v xs := h.below hb
theorem OB.bel {w w1 : World} {lo hi : Nat} {v : Value} {l : List (List Flit)} {vs : List Value} (hb : Below w.heap.size w w1) (h : OB w lo hi v l vs) : OB w1 lo hi v l vs := h.below hb
set_option maxHeartbeats 4000000 in
set_option maxRecDepth 100000 in
theorem laws_toNet2 (n : Net) (q : NA) (w : World) (hr : NetR 103 w n q) : Calls Tryz.prog 12 #[.agg (netCells n q)] w fun e w' => GotNI w w' n e ∧ Below w.heap.size w w' := by
  have H := Lib.hid hr
  clear hr
  unfold netCells
  go_enter Tryz.func12, Tryz.ntmps12
  go_wp2_with fail
  refine (laws_toMesh n.mesh q.a1 q.c1 _ (by exact Kd.C_below H.out.br bel) H.out.h1).mono ?_
  rintro e w1 ⟨hg1, hb1⟩
  obtain ⟨v1, rfl, HO1⟩ := hg1
  obtain ⟨A1, c1, rfl⟩ := Kd.R_slice HO1
  obtain ⟨hc1, hf1, hz1⟩ := bcell hb1; (try simp only [szs] at hz1); have hb2 := (by first | exact bw_then hb2 hb1 | exact bw_then (bw_drewN _ hb2) hb1 | exact bw_then (bw_alloc _ hb2) hb1 | exact bw_then (bw_drew hb2) hb1 | exact bw_then HB hb1 | exact bw_then (bw_drewN _ HB) hb1 | exact bw_then (bw_alloc _ HB) hb1 | exact bw_then (bw_drew HB) hb1 | exact hb1); obtain ⟨hc2, hf2, hz2⟩ := bcell hb2; (try simp only [szs] at hz2); try (first | obtain ⟨hy1, hy2, hy3, hy4⟩ := lts4 hz2 | obtain ⟨hy1, hy2, hy3⟩ := lts3 hz2 | obtain ⟨hy1, hy2⟩ := lts2 hz2 | have hy1 := lts1 hz2); have hb9 := hb1
  have za1 : w.heap.size < w1.heap.size := by omega
  have zb1 : w.heap.size + 1 < w1.heap.size := by omega
  have zc1 : w.heap.size + 1 + 1 < w1.heap.size := by omega
  have U1 : RU (Kd.int .i64) 3 w1 (w.heap.size + 1 + 1 + 1) w1.heap.size _ _ := RU.of HO1 (by simp only [szs]; omega) (Nat.le_refl _)
  clear HO1
  go_wp2_with fail
  refine (laws_toClasses n.pa n.pb q.a2 q.a3 q.c2 q.c3 _ (by exact Kd.C_below H.out.pa bel) H.out.h2 (by exact Kd.C_below H.out.pb bel) H.out.h3).mono ?_
  rintro e w2 ⟨hg1, hb1⟩
  obtain ⟨v2, v3, rfl, HO2, HO3, hap⟩ := hg1
  obtain ⟨A2, c2, rfl⟩ := Kd.R_slice HO2
  obtain ⟨A3, c3, rfl⟩ := Kd.R_slice HO3
  obtain ⟨hc1, hf1, hz1⟩ := bcell hb1; (try simp only [szs] at hz1); have hb2 := (by first | exact bw_then hb2 hb1 | exact bw_then (bw_drewN _ hb2) hb1 | exact bw_then (bw_alloc _ hb2) hb1 | exact bw_then (bw_drew hb2) hb1 | exact bw_then HB hb1 | exact bw_then (bw_drewN _ HB) hb1 | exact bw_then (bw_alloc _ HB) hb1 | exact bw_then (bw_drew HB) hb1 | exact hb1); obtain ⟨hc2, hf2, hz2⟩ := bcell hb2; (try simp only [szs] at hz2); try (first | obtain ⟨hy1, hy2, hy3, hy4⟩ := lts4 hz2 | obtain ⟨hy1, hy2, hy3⟩ := lts3 hz2 | obtain ⟨hy1, hy2⟩ := lts2 hz2 | have hy1 := lts1 hz2); have hb9 := hb1
  have za2 : w.heap.size < w2.heap.size := by omega
  have zb2 : w.heap.size + 1 < w2.heap.size := by omega
  have zc2 : w.heap.size + 1 + 1 < w2.heap.size := by omega
  have U2 : RU (Kd.int .i64) 3 w2 w1.heap.size w2.heap.size _ _ := RU.of HO2 (by simp only [szs]; omega) (Nat.le_refl _)
  have U3 : RU (Kd.int .i64) 3 w2 w1.heap.size w2.heap.size _ _ := RU.of HO3 (by simp only [szs]; omega) (Nat.le_refl _)
  have zz2 : w1.heap.size ≤ w2.heap.size := by omega
  clear HO2 HO3
  go_wp2_with fail
  refine (laws_toFlitSS2 n.bufs q.a4 q.c4 _ (by exact Kd.C_below H.out.bufs bel) H.out.h4 (Lib.hid H.out.h9)).mono ?_
  rintro e w3 ⟨hg1, hb1⟩
  obtain ⟨v4, vs4, rfl, HO4⟩ := hg1
  obtain ⟨A4, c4, rfl⟩ := HO4.slice
  obtain ⟨hc1, hf1, hz1⟩ := bcell hb1; (try simp only [szs] at hz1); have hb2 := (by first | exact bw_then hb2 hb1 | exact bw_then (bw_drewN _ hb2) hb1 | exact bw_then (bw_alloc _ hb2) hb1 | exact bw_then (bw_drew hb2) hb1 | exact bw_then HB hb1 | exact bw_then (bw_drewN _ HB) hb1 | exact bw_then (bw_alloc _ HB) hb1 | exact bw_then (bw_drew HB) hb1 | exact hb1); obtain ⟨hc2, hf2, hz2⟩ := bcell hb2; (try simp only [szs] at hz2); try (first | obtain ⟨hy1, hy2, hy3, hy4⟩ := lts4 hz2 | obtain ⟨hy1, hy2, hy3⟩ := lts3 hz2 | obtain ⟨hy1, hy2⟩ := lts2 hz2 | have hy1 := lts1 hz2); have hb9 := hb1
  have za3 : w.heap.size < w3.heap.size := by omega
  have zb3 : w.heap.size + 1 < w3.heap.size := by omega
  have zc3 : w.heap.size + 1 + 1 < w3.heap.size := by omega
  have U4 : OB w3 w2.heap.size w3.heap.size _ _ vs4 := HO4.wide (by simp only [szs]; omega) (Nat.le_refl _)
  have zz3 : w2.heap.size ≤ w3.heap.size := by omega
  clear HO4
  go_wp2_with fail
  refine (laws_toIntS n.owners q.a5 q.c5 _ (by exact Kd.C_below H.out.owners bel) H.out.h5).mono ?_
  rintro e w4 ⟨hg1, hb1⟩
  obtain ⟨v5, rfl, HO5⟩ := hg1
  obtain ⟨A5, c5, rfl⟩ := Kd.R_slice HO5
  obtain ⟨hc1, hf1, hz1⟩ := bcell hb1; (try simp only [szs] at hz1); have hb2 := (by first | exact bw_then hb2 hb1 | exact bw_then (bw_drewN _ hb2) hb1 | exact bw_then (bw_alloc _ hb2) hb1 | exact bw_then (bw_drew hb2) hb1 | exact bw_then HB hb1 | exact bw_then (bw_drewN _ HB) hb1 | exact bw_then (bw_alloc _ HB) hb1 | exact bw_then (bw_drew HB) hb1 | exact hb1); obtain ⟨hc2, hf2, hz2⟩ := bcell hb2; (try simp only [szs] at hz2); try (first | obtain ⟨hy1, hy2, hy3, hy4⟩ := lts4 hz2 | obtain ⟨hy1, hy2, hy3⟩ := lts3 hz2 | obtain ⟨hy1, hy2⟩ := lts2 hz2 | have hy1 := lts1 hz2); have hb9 := hb1
  have za4 : w.heap.size < w4.heap.size := by omega
  have zb4 : w.heap.size + 1 < w4.heap.size := by omega
  have zc4 : w.heap.size + 1 + 1 < w4.heap.size := by omega
  have U5 : RU (Kd.int .i64) 3 w4 w3.heap.size w4.heap.size _ _ := RU.of HO5 (by simp only [szs]; omega) (Nat.le_refl _)
  have zz4 : w3.heap.size ≤ w4.heap.size := by omega
  clear HO5
  go_wp2_with fail
  refine (laws_toIntS n.turns q.a6 q.c6 _ (by exact Kd.C_below H.out.turns bel) H.out.h6).mono ?_
  rintro e w5 ⟨hg1, hb1⟩
  obtain ⟨v6, rfl, HO6⟩ := hg1
  obtain ⟨A6, c6, rfl⟩ := Kd.R_slice HO6
  obtain ⟨hc1, hf1, hz1⟩ := bcell hb1; (try simp only [szs] at hz1); have hb2 := (by first | exact bw_then hb2 hb1 | exact bw_then (bw_drewN _ hb2) hb1 | exact bw_then (bw_alloc _ hb2) hb1 | exact bw_then (bw_drew hb2) hb1 | exact bw_then HB hb1 | exact bw_then (bw_drewN _ HB) hb1 | exact bw_then (bw_alloc _ HB) hb1 | exact bw_then (bw_drew HB) hb1 | exact hb1); obtain ⟨hc2, hf2, hz2⟩ := bcell hb2; (try simp only [szs] at hz2); try (first | obtain ⟨hy1, hy2, hy3, hy4⟩ := lts4 hz2 | obtain ⟨hy1, hy2, hy3⟩ := lts3 hz2 | obtain ⟨hy1, hy2⟩ := lts2 hz2 | have hy1 := lts1 hz2); have hb9 := hb1
  have za5 : w.heap.size < w5.heap.size := by omega
  have zb5 : w.heap.size + 1 < w5.heap.size := by omega
  have zc5 : w.heap.size + 1 + 1 < w5.heap.size := by omega
  have U6 : RU (Kd.int .i64) 3 w5 w4.heap.size w5.heap.size _ _ := RU.of HO6 (by simp only [szs]; omega) (Nat.le_refl _)
  have zz5 : w4.heap.size ≤ w5.heap.size := by omega
  clear HO6
  go_wp2_with fail
  refine (laws_toFlitSS2 n.srcs q.a7 q.c7 _ (by exact Kd.C_below H.out.srcs bel) H.out.h7 (Lib.hid H.out.h10)).mono ?_
  rintro e w6 ⟨hg1, hb1⟩
  obtain ⟨v7, vs7, rfl, HO7⟩ := hg1
  obtain ⟨A7, c7, rfl⟩ := HO7.slice
  obtain ⟨hc1, hf1, hz1⟩ := bcell hb1; (try simp only [szs] at hz1); have hb2 := (by first | exact bw_then hb2 hb1 | exact bw_then (bw_drewN _ hb2) hb1 | exact bw_then (bw_alloc _ hb2) hb1 | exact bw_then (bw_drew hb2) hb1 | exact bw_then HB hb1 | exact bw_then (bw_drewN _ HB) hb1 | exact bw_then (bw_alloc _ HB) hb1 | exact bw_then (bw_drew HB) hb1 | exact hb1); obtain ⟨hc2, hf2, hz2⟩ := bcell hb2; (try simp only [szs] at hz2); try (first | obtain ⟨hy1, hy2, hy3, hy4⟩ := lts4 hz2 | obtain ⟨hy1, hy2, hy3⟩ := lts3 hz2 | obtain ⟨hy1, hy2⟩ := lts2 hz2 | have hy1 := lts1 hz2); have hb9 := hb1
  have za6 : w.heap.size < w6.heap.size := by omega
  have zb6 : w.heap.size + 1 < w6.heap.size := by omega
  have zc6 : w.heap.size + 1 + 1 < w6.heap.size := by omega
  have U7 : OB w6 w5.heap.size w6.heap.size _ _ vs7 := HO7.wide (by simp only [szs]; omega) (Nat.le_refl _)
  have zz6 : w5.heap.size ≤ w6.heap.size := by omega
  clear HO7
  go_wp2_with fail
  refine (laws_toFlitSS2 n.arrs q.a8 q.c8 _ (by exact Kd.C_below H.out.arrs bel) H.out.h8 (Lib.hid H.out.h11)).mono ?_
  rintro e w7 ⟨hg1, hb1⟩
  obtain ⟨v8, vs8, rfl, HO8⟩ := hg1
  obtain ⟨A8, c8, rfl⟩ := HO8.slice
  obtain ⟨hc1, hf1, hz1⟩ := bcell hb1; (try simp only [szs] at hz1); have hb2 := (by first | exact bw_then hb2 hb1 | exact bw_then (bw_drewN _ hb2) hb1 | exact bw_then (bw_alloc _ hb2) hb1 | exact bw_then (bw_drew hb2) hb1 | exact bw_then HB hb1 | exact bw_then (bw_drewN _ HB) hb1 | exact bw_then (bw_alloc _ HB) hb1 | exact bw_then (bw_drew HB) hb1 | exact hb1); obtain ⟨hc2, hf2, hz2⟩ := bcell hb2; (try simp only [szs] at hz2); try (first | obtain ⟨hy1, hy2, hy3, hy4⟩ := lts4 hz2 | obtain ⟨hy1, hy2, hy3⟩ := lts3 hz2 | obtain ⟨hy1, hy2⟩ := lts2 hz2 | have hy1 := lts1 hz2); have hb9 := hb1
  have za7 : w.heap.size < w7.heap.size := by omega
  have zb7 : w.heap.size + 1 < w7.heap.size := by omega
  have zc7 : w.heap.size + 1 + 1 < w7.heap.size := by omega
  have U8 : OB w7 w6.heap.size w7.heap.size _ _ vs8 := HO8.wide (by simp only [szs]; omega) (Nat.le_refl _)
  have zz7 : w6.heap.size ≤ w7.heap.size := by omega
  clear HO8
  go_wp2
  refine bodyPost_ret (v := .agg (netCells n ⟨A1, A2, A3, A4, A5, A6, A7, A8, c1, c2, c3, c4, c5, c6, c7, c8⟩)) (by simp [results, Tryz.results12, go_sem, netCells, *]) rfl ⟨⟨_, seven (w.heap.size + 1 + 1 + 1) w1.heap.size w2.heap.size w3.heap.size w4.heap.size w5.heap.size w6.heap.size, seven w1.heap.size w2.heap.size w3.heap.size w4.heap.size w5.heap.size w6.heap.size w7.heap.size, vs4, vs7, vs8, rfl, lay_seq (by omega) zz2 zz3 zz4 zz5 zz6 zz7 (by omega) (by simp only [szs]; omega), ?_⟩, bel⟩
  refine ⟨?_, ?_, ?_, apart_comm hap, ?_, ?_, ?_, ?_, ?_⟩
  all_goals (simp only [seven]; with_reducible repeat (first | exact U1 | exact U2 | exact U3 | exact U4 | exact U5 | exact U6 | exact U7 | exact U8 | (refine RU.off ?_ (by omega) _ _) | (refine OB.off ?_ (by omega) _ _) | (refine RU.bel (by assumption) ?_) | (refine OB.bel (by assumption) ?_)))
end Go.Proofs.YteeebfeljjghhaaGreat
