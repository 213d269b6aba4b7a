/- Lemmas for laws of this seat, for all inputs: StW GrS Mv StH StP. -/
import Derived.Test.YtodbglncccgdbaaGreatQ3
import Derived.Test.YtodbglncccgdbaaGreatQ9
import Derived.Test.YtodbglncccgdbaaGreatQ11
import Derived.Test.YtodbglncccgdbaaGreatQ8
set_option linter.unusedVariables false
set_option linter.unusedSimpArgs false
namespace Go.Proofs.YtodbglncccgdbaaGreat
open Go.RowKit Go.Proofs.YtodbglncccgdbaaGreatW.PrintWords
open NoC
structure SV where
  q:NA
  v4:List Value
  v7:List Value
  v8:List Value
  vg:Value
  vt:Value
  ve:Value
  vm:Value
  gs:List Grant
  ts:List Int
  es:List Int
  ms:List Flit
def allV (s:SV):List Value:=s.v4++(s.v7++s.v8)
def allR (x:Net):List (List Flit):=x.bufs++(x.srcs++x.arrs)
structure ST (w0:World) (lo bx:Nat) (n0:Net) (s:SV) (x:Net) (w:World):Prop where
  nx:NX w lo x s.q s.v4 s.v7 s.v8
  bt:BT w bx n0 s.q
  g:kG.R 161 w w0.heap.size (fun _=>True) s.vg s.gs
  t:Kd.R (Kd.int .i64) 3 w w0.heap.size (fun _=>True) s.vt s.ts
  e:Kd.R (Kd.int .i64) 3 w w0.heap.size (fun _=>True) s.ve s.es
  m:kF.R 153 w w0.heap.size (fun _=>True) s.vm s.ms
  ma:∀ i:Nat,i<(allR x).length→Apart (vr (allV s) i) s.vm
  blw:Below lo w0 w
  low:lo≤w0.heap.size
  box:lo≤bx∧bx<w0.heap.size
  top:∀ g,(s.q.a4=some ⟨g,0,none⟩∨s.q.a5=some ⟨g,0,none⟩∨s.q.a6=some ⟨g,0,none⟩∨s.q.a7=some ⟨g,0,none⟩∨s.q.a8=some ⟨g,0,none⟩)→lo≤g∧g<w0.heap.size
section
variable {w0 w w1:World} {lo bx:Nat} {n0:Net} {s:SV} {x:Net}
theorem ST.size (h:ST w0 lo bx n0 s x w):w0.heap.size≤w.heap.size:=h.blw.size
theorem ST.below (h:ST w0 lo bx n0 s x w) (hb:Below w.heap.size w w1):ST w0 lo bx n0 s x w1:=
  ⟨h.nx.below hb,h.bt.below hb,Kd.R_below h.g hb,Kd.R_below h.t hb,Kd.R_below h.e hb,Kd.R_below h.m hb,h.ma,below_then h.blw (Nat.le_trans h.low h.size) hb,h.low,h.box,h.top⟩
theorem Below.cut {B C:Nat} {w w1:World} (h:Below C w w1) (hB:B≤C):Below B w w1:=⟨h.os,h.tape,h.output,h.size,fun i hi=>h.block i (by omega)⟩
theorem Below.grownRow {B:Nat} {w w1 w2:World} {v:Value} (h:Below B w w1) (hg:w1.grownBy w2 v.ownBlock) (hB:B≤w1.heap.size) (hv:∀ k,v.ownBlock=some k→B≤k):Below B w w2:=h.grown hg hB hv
theorem below_setc {B:Nat} {w w1:World} (h:Below B w w1) {g:Nat} (hg:B≤g) (o:Nat) (u:Value):Below B w (w1.setCell ⟨g,o,none⟩ u):=h.setCell hg _
theorem RI_grownF {w w1:World} {e1 b1 b2:Nat} {α:Type} {d:Kd α} {v u:Value} {xs:List α} {ys:List Flit} (h:d.R e1 w b1 (fun _=>True) v xs) (hu:kF.R 153 w b2 (fun _=>True) u ys) (hne:e1≠153) (hE:d.E=[]) (hg:w.grownBy w1 u.ownBlock):d.R e1 w1 b1 (fun _=>True) v xs:=by
  obtain⟨i2,hi2⟩:=Kd.R_own hu
  have hb:=Kd.R_bound h
  refine Kd.R_mono (Kd.R_move hb (fun k hk=>?_)) (fun _ _=>trivial)
  obtain⟨_,h1,h2,q,hq,cells,hc⟩:=hk
  rw[hE] at hq
  have eq:q=e1:=by simpa using hq
  subst eq
  refine hg.block k h2 (fun e=>?_)
  obtain⟨cells2,Cb⟩:=own_typed hi2 k e.symm
  rw[hc] at Cb
  have:=(Obj.cells.inj (Option.some.inj Cb)).2.1
  exact hne this
theorem ST.grownF (h:ST w0 lo bx n0 s x w) {k:Nat} (hk:k<(allR x).length) (hg:w.grownBy w1 (vr (allV s) k).ownBlock) :
    BT w1 bx n0 s.q∧kG.R 161 w1 w0.heap.size (fun _=>True) s.vg s.gs∧Kd.R (Kd.int .i64) 3 w1 w0.heap.size (fun _=>True) s.vt s.ts∧Kd.R (Kd.int .i64) 3 w1 w0.heap.size (fun _=>True) s.ve s.es∧kF.R 153 w1 w0.heap.size (fun _=>True) s.vm s.ms∧Below lo w0 w1:=by
  have hr:=h.nx.rows.row k hk
  exact⟨h.bt.grown hg hr,RI_grownF h.g hr (by decide) rfl hg,RI_grownF h.t hr (by decide) rfl hg,RI_grownF h.e hr (by decide) rfl hg,R_grownF h.m hg (apart_comm (h.ma k hk)),Below.grownRow h.blw hg (Nat.le_trans h.low h.size) (fun j hj=>Kd.R_base hr j hj)⟩
theorem G_off {α:Type} {d:Kd α} {e base:Nat} {w:World} {v:Value} {xs:List α} {g:Nat} (h:d.R e w base (fun _=>True) v xs) (hg:g<base) (j:Nat) (u:Value):d.R e (w.setCell ⟨g,j,none⟩ u) base (fun _=>True) v xs:=R_off h hg j u
theorem apart_new {w1:World} {e base:Nat} {u v vm:Value} {xs:List Flit} (ha:Apart v vm) (hat:Anew w u v) (hm:kF.R 153 w base (fun _=>True) vm xs):Apart u vm:=by
  rcases hat with h|h|⟨b,h,hb⟩
  · exact .inl h
  · unfold Apart at ha ⊢
    rwa [h]
  · right
    rw[h]
    intro e
    have:=Kd.R_lt hm b e.symm
    omega
theorem ma_set {s:SV} {L k:Nat} {vm u:Value} {vs:List Value} (hl:vs.length=L) (hk:k<L) (h:∀ i:Nat,i<L→Apart (vr vs i) vm) (hu:Apart u vm):∀ i:Nat,i<L→Apart (vr (vs.set k u) i) vm:=by
  intro i hi
  rw[vr_set (by omega)]
  split
  · exact hu
  · exact h i hi
theorem ST.setBuf {g k:Nat} {u:Value} {y:List Flit} (h:ST w0 lo bx n0 s x w) (ea:s.q.a4=some ⟨g,0,none⟩) (hk:k<x.bufs.length) (hg:w.grownBy w1 (vr s.v4 k).ownBlock) (hu:kF.R 153 w1 lo (fun _=>True) u y) (hat:Anew w u (vr s.v4 k)) :
    ST w0 lo bx n0 { s with v4:=s.v4.set k u } { x with bufs:=x.bufs.set k y } (w1.setCell ⟨g,k,none⟩ u):=by
  have e1:vr (allV s) k=vr s.v4 k:=vr_left (by rw[h.nx.l4];exact hk)
  have hk2:k<(allR x).length:=by simp[allR];omega
  obtain⟨b,p1,p2,p3,p4,p5⟩:=h.grownF hk2 (by rw[e1];exact hg)
  obtain⟨g1,g2⟩:=h.top g (.inl ea)
  have hbl:BlkT w1 g 145:=by
    obtain⟨_,_,_,_,_,o4,_⟩:=h.nx.kept (k:=k) hk2 (by show w.grownBy w1 (vr (allV s) k).ownBlock;rw[e1];exact hg)
    exact own_typed o4 g (by rw[ea];rfl)
  refine⟨h.nx.setBuf ea k hk hg hu hat,b.far hbl (by decide) _ _,G_off p1 g2 _ _,G_off p2 g2 _ _,G_off p3 g2 _ _,G_off p4 g2 _ _,?_,below_setc p5 g1 _ _,h.low,h.box,h.top⟩
  have e2:allV { s with v4:=s.v4.set k u }=(allV s).set k u:=by
    unfold allV
    rw[List.set_append_left _ _ (by rw[h.nx.l4];exact hk)]
  have e3:(allR { x with bufs:=x.bufs.set k y }).length=(allR x).length:=by simp[allR]
  rw[e2,e3]
  exact ma_set (s:=s) (by unfold allV allR;simp[h.nx.l4,h.nx.l7,h.nx.l8]) hk2 h.ma (apart_new (w1:=w1) (e:=0) (by rw[←e1];exact h.ma k hk2) hat h.m)
theorem ST.setSrc {g k:Nat} {u:Value} {y:List Flit} (h:ST w0 lo bx n0 s x w) (ea:s.q.a7=some ⟨g,0,none⟩) (hk:k<x.srcs.length) (hg:w.grownBy w1 (vr s.v7 k).ownBlock) (hu:kF.R 153 w1 lo (fun _=>True) u y) (hat:Anew w u (vr s.v7 k)) :
    ST w0 lo bx n0 { s with v7:=s.v7.set k u } { x with srcs:=x.srcs.set k y } (w1.setCell ⟨g,k,none⟩ u):=by
  have e1:vr (allV s) (x.bufs.length+k)=vr s.v7 k:=by unfold allV;rw[←h.nx.l4,vr_right,vr_left (by rw[h.nx.l7];exact hk)]
  have hk2:x.bufs.length+k<(allR x).length:=by simp[allR];omega
  obtain⟨b,p1,p2,p3,p4,p5⟩:=h.grownF hk2 (by rw[e1];exact hg)
  obtain⟨g1,g2⟩:=h.top g (.inr (.inr (.inr (.inl ea))))
  have hbl:BlkT w1 g 145:=by
    obtain⟨_,_,_,_,_,_,o7,_⟩:=h.nx.kept (k:=x.bufs.length+k) hk2 (by show w.grownBy w1 (vr (allV s) (x.bufs.length+k)).ownBlock;rw[e1];exact hg)
    exact own_typed o7 g (by rw[ea];rfl)
  refine⟨h.nx.setSrc ea k hk hg hu hat,b.far hbl (by decide) _ _,G_off p1 g2 _ _,G_off p2 g2 _ _,G_off p3 g2 _ _,G_off p4 g2 _ _,?_,below_setc p5 g1 _ _,h.low,h.box,h.top⟩
  have e2:allV { s with v7:=s.v7.set k u }=(allV s).set (x.bufs.length+k) u:=by
    unfold allV
    rw[←h.nx.l4]
    exact(set_mid s.v4 s.v7 s.v8 k u (by rw[h.nx.l7];exact hk)).symm
  have e3:(allR { x with srcs:=x.srcs.set k y }).length=(allR x).length:=by simp[allR]
  rw[e2,e3]
  exact ma_set (s:=s) (by unfold allV allR;simp[h.nx.l4,h.nx.l7,h.nx.l8]) hk2 h.ma (apart_new (w1:=w1) (e:=0) (by rw[←e1];exact h.ma _ hk2) hat h.m)
theorem ST.setArr {g k:Nat} {u:Value} {y:List Flit} (h:ST w0 lo bx n0 s x w) (ea:s.q.a8=some ⟨g,0,none⟩) (hk:k<x.arrs.length) (hg:w.grownBy w1 (vr s.v8 k).ownBlock) (hu:kF.R 153 w1 lo (fun _=>True) u y) (hat:Anew w u (vr s.v8 k)) :
    ST w0 lo bx n0 { s with v8:=s.v8.set k u } { x with arrs:=x.arrs.set k y } (w1.setCell ⟨g,k,none⟩ u):=by
  have e1:vr (allV s) (x.bufs.length+(x.srcs.length+k))=vr s.v8 k:=by unfold allV;rw[←h.nx.l4,vr_right,←h.nx.l7,vr_right]
  have hk2:x.bufs.length+(x.srcs.length+k)<(allR x).length:=by simp[allR];omega
  obtain⟨b,p1,p2,p3,p4,p5⟩:=h.grownF hk2 (by rw[e1];exact hg)
  obtain⟨g1,g2⟩:=h.top g (.inr (.inr (.inr (.inr ea))))
  have hbl:BlkT w1 g 145:=by
    obtain⟨_,_,_,_,_,_,_,o8⟩:=h.nx.kept (k:=x.bufs.length+(x.srcs.length+k)) hk2 (by show w.grownBy w1 (vr (allV s) (x.bufs.length+(x.srcs.length+k))).ownBlock;rw[e1];exact hg)
    exact own_typed o8 g (by rw[ea];rfl)
  refine⟨h.nx.setArr ea k hk hg hu hat,b.far hbl (by decide) _ _,G_off p1 g2 _ _,G_off p2 g2 _ _,G_off p3 g2 _ _,G_off p4 g2 _ _,?_,below_setc p5 g1 _ _,h.low,h.box,h.top⟩
  have e2:allV { s with v8:=s.v8.set k u }=(allV s).set (x.bufs.length+(x.srcs.length+k)) u:=by
    unfold allV
    rw[←h.nx.l4,←h.nx.l7]
    exact(set_end s.v4 s.v7 s.v8 k u).symm
  have e3:(allR { x with arrs:=x.arrs.set k y }).length=(allR x).length:=by simp[allR]
  rw[e2,e3]
  exact ma_set (s:=s) (by unfold allV allR;simp[h.nx.l4,h.nx.l7,h.nx.l8]) hk2 h.ma (apart_new (w1:=w1) (e:=0) (by rw[←e1];exact h.ma _ hk2) hat h.m)
theorem ST.setOwner {g k:Nat} (h:ST w0 lo bx n0 s x w) (ea:s.q.a5=some ⟨g,0,none⟩) (hk:k<x.owners.length) (v:Int):ST w0 lo bx n0 s { x with owners:=x.owners.set k v } (w.setCell ⟨g,k,none⟩ (.int .i64 v)):=by
  obtain⟨g1,g2⟩:=h.top g (.inr (.inl ea))
  have hbl:BlkT w g 3:=by
    have ho:=h.nx.owners
    obtain⟨i,hin⟩:=Kd.R_own ho
    exact own_typed hin g (by rw[ea];rfl)
  exact⟨h.nx.setOwner ea k hk v,h.bt.far hbl (by decide) _ _,G_off h.g g2 _ _,G_off h.t g2 _ _,G_off h.e g2 _ _,G_off h.m g2 _ _,h.ma,below_setc h.blw g1 _ _,h.low,h.box,h.top⟩
theorem ST.setTurn {g k:Nat} (h:ST w0 lo bx n0 s x w) (ea:s.q.a6=some ⟨g,0,none⟩) (hk:k<x.turns.length) (v:Int):ST w0 lo bx n0 s { x with turns:=x.turns.set k v } (w.setCell ⟨g,k,none⟩ (.int .i64 v)):=by
  obtain⟨g1,g2⟩:=h.top g (.inr (.inr (.inl ea)))
  have hbl:BlkT w g 3:=by
    have ho:=h.nx.turns
    obtain⟨i,hin⟩:=Kd.R_own ho
    exact own_typed hin g (by rw[ea];rfl)
  exact⟨h.nx.setTurn ea k hk v,h.bt.far hbl (by decide) _ _,G_off h.g g2 _ _,G_off h.t g2 _ _,G_off h.e g2 _ _,G_off h.m g2 _ _,h.ma,below_setc h.blw g1 _ _,h.low,h.box,h.top⟩
theorem ST.moved {vm:Value} {ms:List Flit} (h:ST w0 lo bx n0 s x w) (hg:w.grownBy w1 s.vm.ownBlock) (hm:kF.R 153 w1 w0.heap.size (fun _=>True) vm ms) (hat:Anew w vm s.vm):ST w0 lo bx n0 { s with vm:=vm,ms:=ms } x w1:=by
  have own:∀ {e n:Nat} {v:Value} {xs:List Value} {b:Nat},w.ownsRow b e 1 v n xs→e≠153→w1.ownsRow b e 1 v n xs:=fun ho hne=>by
    obtain⟨i,hin⟩:=Kd.R_own h.m
    exact own_other ho hg (own_type_ne ho hin hne)
  refine⟨⟨RI_grownF h.nx.br h.m (by decide) rfl hg,RI_grownF h.nx.pa h.m (by decide) rfl hg,RI_grownF h.nx.pb h.m (by decide) rfl hg,RI_grownF h.nx.owners h.m (by decide) rfl hg,RI_grownF h.nx.turns h.m (by decide) rfl hg,own h.nx.bufs (by decide),own h.nx.srcs (by decide),own h.nx.arrs (by decide),⟨h.nx.rows.len,fun i hi=>R_grownF (h.nx.rows.row i hi) hg (h.ma i hi),h.nx.rows.ap⟩,h.nx.apI,h.nx.apO⟩,h.bt.grown hg h.m,RI_grownF h.g h.m (by decide) rfl hg,RI_grownF h.t h.m (by decide) rfl hg,RI_grownF h.e h.m (by decide) rfl hg,hm,fun i hi=>?_,?_,h.low,h.box,h.top⟩
  · exact apart_comm (apart_new (w1:=w1) (e:=0) (apart_comm (h.ma i hi)) hat (h.nx.rows.row i hi))
  · exact Below.grownRow h.blw hg (Nat.le_trans h.low h.size) (fun j hj=>Nat.le_trans h.low (Kd.R_base h.m j hj))
end
theorem kb_alloc {w w1:World} {g:Nat} {r:Option Nat} (o:Obj) (h:KeepBut w w1 g r):KeepBut w (w1.alloc o) g r:=⟨by rw[World.size_alloc];exact Nat.le_succ_of_le h.1,fun i hi h1 h2=>((bw_alloc o (bw_refl w1)).block i (Nat.lt_of_lt_of_le hi h.1)).trans (h.2 i hi h1 h2)⟩
theorem kb_drew {w w1:World} {g:Nat} {r:Option Nat} (h:KeepBut w w1 g r):KeepBut w w1.drew g r:=h
theorem kb_below {w w1 w2:World} {g:Nat} {r:Option Nat} (h:KeepBut w w1 g r) (hb:Below w1.heap.size w1 w2):KeepBut w w2 g r:=⟨Nat.le_trans h.1 hb.size,fun i hi h1 h2=>(hb.block i (Nat.lt_of_lt_of_le hi h.1)).trans (h.2 i hi h1 h2)⟩
theorem kb_grown {w w1 w2:World} {g:Nat} {r:Option Nat} (h:KeepBut w w1 g r) (hb:w1.grownBy w2 r):KeepBut w w2 g r:=⟨Nat.le_trans h.1 hb.size,fun i hi h1 h2=>(hb.block i (Nat.lt_of_lt_of_le hi h.1) h2).trans (h.2 i hi h1 h2)⟩
theorem kb_of {W w:World} {g:Nat} {r:Option Nat} (h:KeepBut W w g r):KeepBut W w g r∧∀ b o,b<W.heap.size→b≠g→some b≠r→w.cell? ⟨b,o,none⟩=W.cell? ⟨b,o,none⟩:=
  ⟨h,fun b o h1 h2 h3=>World.cell?_of_block (a:=⟨b,o,none⟩) (h.2 b h1 h2 h3)⟩
theorem info_b:(Tryz.prog.info? 4).map (fun i=>(i.zero,i.size,i.bytes))=some (some (.bool false),1,1):=by kernel_rfl
set_option maxHeartbeats 8000000 in
set_option maxRecDepth 100000 in
theorem spec_l18Grants (n:Net) (q:NA) (a:Int) (w:World) (hr:NetR 153 w n q) (ok:netOk n=true) (nd:isNode n.mesh.g a=true) :
  Calls Tryz.prog 176 #[.agg (netCells n q),.int .i64 a] w fun e w'=>GotG w w' (grantsN n a) e∧Below w.heap.size w w':=by
 have R:=Lib.hid hr
 have OK:=Lib.hid ok
 have ND:=Lib.hid nd
 obtain⟨_,_,_,a15⟩:=node_bounds nd
 have a0:=(isNode_iff.1 nd).1
 obtain⟨u0,u1,_,_⟩:=turn_range ok nd 0 (by omega)
 clear ok nd
 obtain⟨a1,a2,a3,a4,a5,a6,a7,a8,c1,c2,c3,c4,c5,c6,c7,c8⟩:=q;obtain⟨Rbr,Rpa,Rpb,Rbu,Row,Rtu,Rso,Rar,L1,L2,L3,L4,L5,L6,L7,L8,L9,L10,L11⟩:=hr;have M9:=Lib.hid L9;have M10:=Lib.hid L10;have M11:=Lib.hid L11;clear L9 L10 L11;dsimp only [netCells] at *
 obtain⟨b6,o6,rfl,hb6,r6⟩:=rdI_all Rtu (by omega)
 obtain⟨z1,z2,z3,z4,z5,z6⟩:=more hb6
 have R6:=Lib.hid r6
 clear r6 u0 u1
 have mk:∀ W:World,(Instr.makeSlice 211 (.int .i64 5) (.int .i64 5)).run Tryz.prog W=.ok (.slice (some ⟨W.heap.size,0,none⟩) 5 5) (W.alloc (.cells (uCells [false,false,false,false,false]) 4)):=
  fun W=>by
   have h:=print_make_int (P:=Tryz.prog) 211 4 (.bool false) 1 Tryz.underlying211 info_b rfl (by omega) 5 (by omega) (by decide) W
   rw[show (5:Int).toNat=5 from rfl,show madeCells #[.bool false] 5=uCells [false,false,false,false,false] by first|rfl|kernel_rfl|(apply Array.ext';simp[madeCells,uCells];rfl)] at h
   exact h
 go_enter Tryz.func176,Tryz.ntmps176
 go_wp2
 go_loopw [5,7] (fun v i wr=>∃ p:Nat,i=.int .i64 p∧p≤5∧kG.R 161 wr (w.alloc (.cells #[.int .i64 n.mesh.g.w,.int .i64 n.mesh.g.h,.slice a1 n.mesh.br.length c1,.slice a2 n.pa.length c2,.slice a3 n.pb.length c3,.slice a4 n.bufs.length c4,.slice a5 n.owners.length c5,.slice (some ⟨b6,o6,none⟩) n.turns.length c6,.slice a7 n.srcs.length c7,.slice a8 n.arrs.length c8,.int .i64 n.time] 42)).heap.size (fun _=>True) v (gst n a p).2∧UB 4 wr (w.heap.size+1+1) (gst n a p).1∧Below (w.alloc (.cells #[.int .i64 n.mesh.g.w,.int .i64 n.mesh.g.h,.slice a1 n.mesh.br.length c1,.slice a2 n.pa.length c2,.slice a3 n.pb.length c3,.slice a4 n.bufs.length c4,.slice a5 n.owners.length c5,.slice (some ⟨b6,o6,none⟩) n.turns.length c6,.slice a7 n.srcs.length c7,.slice a8 n.arrs.length c8,.int .i64 n.time] 42)).heap.size (w.alloc (.cells #[.int .i64 n.mesh.g.w,.int .i64 n.mesh.g.h,.slice a1 n.mesh.br.length c1,.slice a2 n.pa.length c2,.slice a3 n.pb.length c3,.slice a4 n.bufs.length c4,.slice a5 n.owners.length c5,.slice (some ⟨b6,o6,none⟩) n.turns.length c6,.slice a7 n.srcs.length c7,.slice a8 n.arrs.length c8,.int .i64 n.time] 42)) wr) (fun _ i _=>5 - (intOf i).toNat)
 case atStart=>exact⟨0,rfl,Nat.zero_le _,Kd.R_below (R_empty' kG 161 (W0:=w.alloc (.cells #[.int .i64 n.mesh.g.w,.int .i64 n.mesh.g.h,.slice a1 n.mesh.br.length c1,.slice a2 n.pa.length c2,.slice a3 n.pb.length c3,.slice a4 n.bufs.length c4,.slice a5 n.owners.length c5,.slice (some ⟨b6,o6,none⟩) n.turns.length c6,.slice a7 n.srcs.length c7,.slice a8 n.arrs.length c8,.int .i64 n.time] 42)) (W:=w.alloc (.cells #[.int .i64 n.mesh.g.w,.int .i64 n.mesh.g.h,.slice a1 n.mesh.br.length c1,.slice a2 n.pa.length c2,.slice a3 n.pb.length c3,.slice a4 n.bufs.length c4,.slice a5 n.owners.length c5,.slice (some ⟨b6,o6,none⟩) n.turns.length c6,.slice a7 n.srcs.length c7,.slice a8 n.arrs.length c8,.int .i64 n.time] 42)) (Nat.le_refl _) (w.heap.size+1) (by simp only[szs])) (bw_alloc _ (bw_refl _)),⟨rfl,Blk.new ((w.alloc (.cells #[.int .i64 n.mesh.g.w,.int .i64 n.mesh.g.h,.slice a1 n.mesh.br.length c1,.slice a2 n.pa.length c2,.slice a3 n.pb.length c3,.slice a4 n.bufs.length c4,.slice a5 n.owners.length c5,.slice (some ⟨b6,o6,none⟩) n.turns.length c6,.slice a7 n.srcs.length c7,.slice a8 n.arrs.length c8,.int .i64 n.time] 42)).alloc (.cells #[] 161)) _ _ _ (by simp only[szs])⟩,bel⟩
 case round=>
  obtain⟨p,rfl,hp,HO,HU,HB⟩:=hrel
  obtain⟨Ao,co,rfl⟩:=Kd.R_slice HO
  have hlen:=gst_len n a p
  have husl:=gst_us n a p
  obtain⟨hcr,hfr,hzr⟩:=bcell HB
  simp only[szs] at hzr
  have yy1:=lts1 hzr
  have hul:=HU.2.lt
  by_cases hlt:p<5
  ·have p0:(p:Int)≤4:=by omega
   obtain⟨t0,t1,t2,t3⟩:=turn_range OK.out ND.out p hlt
   have r6:=R6.out (5*a+(p:Int)) t0 t1
   obtain⟨us,eus⟩:∃ us,(gst n a p).1=us:=⟨_,rfl⟩
   obtain⟨k0,k1⟩:=pick_range n a p us
   obtain⟨k,hk⟩:∃ k,pick n a p us=k:=⟨_,rfl⟩
   rw[hk] at k0 k1
   rw[eus] at HU husl
   have HK:=Lib.hid hk
   have HE:=Lib.hid (show pick n a p (gst n a p).1=k by rw[eus];exact hk)
   have EUS:=Lib.hid eus
   have HUSL:=Lib.hid husl
   have HUH:=Lib.hid HU
   have HOH:=Lib.hid HO
   clear hk eus husl HU HO
   obtain⟨wo,rfl⟩:∃ x,x=wr:=⟨_,rfl⟩
   go_wp2
   go_loopw [8,9] (fun v j wr=>∃ k:Nat,j=.int .i64 k∧k≤10∧Kd.R (Kd.int .i64) 3 wr wo.heap.size (fun _=>True) v (freeTo n a p us k)∧Below wo.heap.size wo wr) (fun _ j _=>10 - (intOf j).toNat)
   case atStart=>exact⟨0,rfl,Nat.zero_le _,R_empty (W0:=wo) _ _ (bw_size (bw_refl wo)),bel⟩
   case round=>
    obtain⟨x,rfl,hx,HF,HI⟩:=hrel
    obtain⟨Af,cf,rfl⟩:=Kd.R_slice HF
    have flen:=freeTo_len n a p us x
    obtain⟨hci,hfi,hzi⟩:=bcell HI
    have hwi:=bw_then HB HI
    obtain⟨hcj,hfj,hzj⟩:=bcell hwi
    simp only[szs] at hzj
    have yy2:=lts1 hzj
    have HUI:=Lib.hid (HUH.out.below HI)
    by_cases hlx:x<10
    ·have i0:(x:Int)<10:=by omega
     have cx:wo.cell? ⟨w.heap.size+1+1,x / 2,none⟩=some (.bool (usedAt us (x:Int))):=by
      have h:=HUH.out.cell (x:=(x:Int)) (by omega) (by omega)
      rwa [show ((x:Int) / 2).toNat=x / 2 by omega] at h
     have j2:x / 2<5:=by omega
     have j0:0≤(x:Int) / 2:=by omega
     have j1:(x:Int) / 2<5:=by omega
     have HIN:=Lib.hid (reqI_in (n:=n) (a:=a) (i:=(x:Int)) (p:=(p:Int)) (by omega) p0)
     cases hux:usedAt us x
     ·rw[hux] at cx
      have HUX:=Lib.hid hux
      clear hux
      cases hq:requestN n a x p
      ·have HS:=Lib.hid (freeTo_no2 (us:=us) (HIN.out.trans hq))
       go_wp2_with (go_at_call 208;refine(spec_l17Request n _ a x p _ (R.out.below bel) ⟨OK.out,ND.out,by omega,by omega⟩ (by omega) p0).mono ?_;rintro e w1 ⟨rfl,Ba⟩;obtain⟨Ca,Fa,Za⟩:=bcell Ba;(try simp only[szs] at Za);have Bb:=far2;obtain⟨Cb,Fb,Zb⟩:=bcell Bb;(try simp only[szs] at Zb);try (first|obtain⟨Ya,Yb,Yc,Yd⟩:=lts4 Zb|obtain⟨Ya,Yb,Yc⟩:=lts3 Zb|obtain⟨Ya,Yb⟩:=lts2 Zb|have Ya:=lts1 Zb);have hb9:=Ba)
       go_roundw
       case rel=>exact⟨x+1,by go_num,by omega,by rw[HS.out];exact Kd.R_below HF Ba,bw_then HI Ba⟩
       case measure=>simp[intOf];omega
      ·have HS:=Lib.hid (freeTo_yes (us:=us) HUX.out (HIN.out.trans hq))
       go_wp2_with (first|(go_at_call 208;refine(spec_l17Request n _ a x p _ (R.out.below bel) ⟨OK.out,ND.out,by omega,by omega⟩ (by omega) p0).mono ?_;rintro e w1 ⟨rfl,Ba⟩;obtain⟨Ca,Fa,Za⟩:=bcell Ba;(try simp only[szs] at Za);have Bb:=far2;obtain⟨Cb,Fb,Zb⟩:=bcell Bb;(try simp only[szs] at Zb);try (first|obtain⟨Ya,Yb,Yc,Yd⟩:=lts4 Zb|obtain⟨Ya,Yb,Yc⟩:=lts3 Zb|obtain⟨Ya,Yb⟩:=lts2 Zb|have Ya:=lts1 Zb);have hb9:=Ba)|(at_builtin;refine app_int (W0:=wo) rfl (.tmp 35) (.tmp 37) 26 3 rfl Tryz.underlying26 info_int _ (freeTo n a p us x) _ rfl (by first|rfl|exact congrArg (fun z=>Value.slice (some ⟨z,0,none⟩) 1 1) (World.size_alloc _ _).symm) (Kd.R_below HF Ba) (bw_then HI Ba) (by omega) ?_;intro v1 w1 HO1 HB1))
       go_roundw
       case rel=>exact⟨x+1,by go_num,by omega,by rw[HS.out];exact HO1,HB1⟩
       case measure=>simp[intOf];omega
     ·rw[hux] at cx
      have HS:=Lib.hid (freeTo_no1 (n:=n) (a:=a) (p:=(p:Int)) hux)
      clear hux
      go_wp2
      go_roundw
      case rel=>exact⟨x+1,by go_num,by omega,by rw[HS.out];exact HF,HI⟩
      case measure=>simp[intOf];omega
    ·have i0:¬ (x:Int)<10:=by omega
     obtain rfl:x=10:=by omega
     have HC2:=Lib.hid (Kd.R_row HF).2.2
     have HO2:=Lib.hid (Kd.R_below HOH.out HI)
     have HSM:Hid (smallL (freeTo n a p us 10)):=Lib.hid (smallL_mem (left_small n a p us))
     clear HF
     go_wp2_with fail
     refine(spec_FirstFrom (freeTo n a p us 10) (ri n.turns (5*a+(p:Int))) Af cf _ HC2.out (by omega) HSM.out t2 t3).mono ?_
     rintro e w' ⟨he,rfl⟩
     rw[show firstFrom (freeTo n a p us 10) (ri n.turns (5*a+(p:Int)))=k from HK.out] at he
     subst he
     by_cases hk0:0≤k
     ·have HS:=Lib.hid (gst_yes HE.out hk0)
      have j0:0≤k / 2:=by omega
      have j1:k / 2<5:=by omega
      have c9:=HUH.out.cell hk0 k1
      have f9:=HUH.out.2.frozen (k / 2).toNat
      have HRS:=Lib.hid (Kd.R_set HO2.out HUI.out.2 (by decide) (k / 2).toNat (.bool true))
      have HUS:Hid (UB 4 (wr.setCell ⟨w.heap.size+1+1,(k / 2).toNat,none⟩ (.bool true)) (w.heap.size+1+1) (us.set (k / 2).toNat true)):=Lib.hid ⟨by rw[List.length_set];exact HUSL.out,by have h:=HUI.out.2.set (k / 2).toNat (.bool true);rwa [uCells_set] at h⟩
      have HBS:Below (w.alloc (.cells #[.int .i64 n.mesh.g.w,.int .i64 n.mesh.g.h,.slice a1 n.mesh.br.length c1,.slice a2 n.pa.length c2,.slice a3 n.pb.length c3,.slice a4 n.bufs.length c4,.slice a5 n.owners.length c5,.slice (some ⟨b6,o6,none⟩) n.turns.length c6,.slice a7 n.srcs.length c7,.slice a8 n.arrs.length c8,.int .i64 n.time] 42)).heap.size (w.alloc (.cells #[.int .i64 n.mesh.g.w,.int .i64 n.mesh.g.h,.slice a1 n.mesh.br.length c1,.slice a2 n.pa.length c2,.slice a3 n.pb.length c3,.slice a4 n.bufs.length c4,.slice a5 n.owners.length c5,.slice (some ⟨b6,o6,none⟩) n.turns.length c6,.slice a7 n.srcs.length c7,.slice a8 n.arrs.length c8,.int .i64 n.time] 42)) (wr.setCell ⟨w.heap.size+1+1,(k / 2).toNat,none⟩ (.bool true)):=bw_set _ hwi (by simp only[szs];omega)
      go_wp2_with (at_builtin;refine app_G (W0:=w.alloc (.cells #[.int .i64 n.mesh.g.w,.int .i64 n.mesh.g.h,.slice a1 n.mesh.br.length c1,.slice a2 n.pa.length c2,.slice a3 n.pb.length c3,.slice a4 n.bufs.length c4,.slice a5 n.owners.length c5,.slice (some ⟨b6,o6,none⟩) n.turns.length c6,.slice a7 n.srcs.length c7,.slice a8 n.arrs.length c8,.int .i64 n.time] 42)) rfl (.tmp 55) (.tmp 60) rfl _ (gst n a p).2 ⟨a,p,k⟩ rfl (by first|rfl|exact congrArg (fun z=>Value.slice (some ⟨z,0,none⟩) 1 1) (by simp only[szs])) HRS.out HBS (by omega) ?_;intro v3 w3 HO3 HB3 hg3)
      go_roundw
      case rel=>exact⟨p+1,by go_num,by omega,by rw[HS.out];exact HO3,by rw[HS.out,EUS.out];exact HUS.out.grown hg3 (Kd.R_ne HRS.out HUS.out.2 (by decide)),HB3⟩
      case measure=>simp[intOf];omega
     ·have HS:=Lib.hid (gst_no HE.out (by omega))
      go_wp2
      go_roundw
      case rel=>exact⟨p+1,by go_num,by omega,by rw[HS.out];exact HO2.out,by rw[HS.out,EUS.out];exact HUI.out,hwi⟩
      case measure=>simp[intOf];omega
  ·have p0:¬ (p:Int)≤4:=by omega
   obtain rfl:p=5:=by omega
   go_wp2
   go_ret
   exact⟨⟨_,rfl,Kd.R_lower HO (by simp only[szs];omega)⟩,bel⟩
set_option maxHeartbeats 4000000 in
set_option maxRecDepth 100000 in
theorem spec_l18All (n:Net) (q:NA) (w:World) (hr:NetR 153 w n q) (ok:netOk n=true) :
    Calls Tryz.prog 108 #[.agg (netCells n q)] w fun e w'=>GotG w w' (allGrants n) e∧Below w.heap.size w w':=by
  have R:=Lib.hid hr
  have OK:=Lib.hid ok
  obtain⟨n0,n1⟩:=count_le n.mesh.g
  obtain⟨N,hN⟩:∃ N:Nat,nodeCount n.mesh.g=(N:Int):=⟨(nodeCount n.mesh.g).toNat,by omega⟩
  have N16:N≤16:=by omega
  have HN:Hid (allGrants n=allTo n N):=Lib.hid (by rw[allGrants,hN];rfl)
  have HC:=Lib.hid hN
  have HND:Hid (∀ k:Nat,k<N→isNode n.mesh.g k=true):=Lib.hid (fun k hk=>isNode_iff.2 ⟨by omega,by rw[HC.out];omega⟩)
  clear ok hN n0 n1
  obtain⟨a1,a2,a3,a4,a5,a6,a7,a8,c1,c2,c3,c4,c5,c6,c7,c8⟩:=q
  clear hr
  dsimp only [netCells]
  go_enter Tryz.func108,Tryz.ntmps108
  go_wp2
  go_loopw [3,4] (fun v i wr=>∃ k:Nat,i=.int .i64 k∧k≤N∧kG.R 161 wr (w.alloc (.cells #[.int .i64 n.mesh.g.w,.int .i64 n.mesh.g.h,.slice a1 n.mesh.br.length c1,.slice a2 n.pa.length c2,.slice a3 n.pb.length c3,.slice a4 n.bufs.length c4,.slice a5 n.owners.length c5,.slice a6 n.turns.length c6,.slice a7 n.srcs.length c7,.slice a8 n.arrs.length c8,.int .i64 n.time] 42)).heap.size (fun _=>True) v (allTo n k)∧Below (w.alloc (.cells #[.int .i64 n.mesh.g.w,.int .i64 n.mesh.g.h,.slice a1 n.mesh.br.length c1,.slice a2 n.pa.length c2,.slice a3 n.pb.length c3,.slice a4 n.bufs.length c4,.slice a5 n.owners.length c5,.slice a6 n.turns.length c6,.slice a7 n.srcs.length c7,.slice a8 n.arrs.length c8,.int .i64 n.time] 42)).heap.size (w.alloc (.cells #[.int .i64 n.mesh.g.w,.int .i64 n.mesh.g.h,.slice a1 n.mesh.br.length c1,.slice a2 n.pa.length c2,.slice a3 n.pb.length c3,.slice a4 n.bufs.length c4,.slice a5 n.owners.length c5,.slice a6 n.turns.length c6,.slice a7 n.srcs.length c7,.slice a8 n.arrs.length c8,.int .i64 n.time] 42)) wr) (fun _ i _=>N - (intOf i).toNat)
  case atStart=>exact⟨0,rfl,Nat.zero_le _,R_empty' kG 161 (W0:=w.alloc (.cells #[.int .i64 n.mesh.g.w,.int .i64 n.mesh.g.h,.slice a1 n.mesh.br.length c1,.slice a2 n.pa.length c2,.slice a3 n.pb.length c3,.slice a4 n.bufs.length c4,.slice a5 n.owners.length c5,.slice a6 n.turns.length c6,.slice a7 n.srcs.length c7,.slice a8 n.arrs.length c8,.int .i64 n.time] 42)) (W:=w.alloc (.cells #[.int .i64 n.mesh.g.w,.int .i64 n.mesh.g.h,.slice a1 n.mesh.br.length c1,.slice a2 n.pa.length c2,.slice a3 n.pb.length c3,.slice a4 n.bufs.length c4,.slice a5 n.owners.length c5,.slice a6 n.turns.length c6,.slice a7 n.srcs.length c7,.slice a8 n.arrs.length c8,.int .i64 n.time] 42)) (Nat.le_refl _) (w.heap.size+1) (by simp only[szs]),bel⟩
  case round=>
    obtain⟨k,rfl,hk,HO,HB⟩:=hrel
    obtain⟨Ao,co,rfl⟩:=Kd.R_slice HO
    have hlen:=allTo_len n k
    obtain⟨hcr,hfr,hzr⟩:=bcell HB
    simp only[szs] at hzr
    have yy1:=lts1 hzr
    by_cases hlt:k<N
    · have i0:(k:Int)<(N:Int):=by omega
      have HS:=Lib.hid (allTo_succ n k)
      have gl:=gst_len n k 5
      go_wp2_with (first|(go_at_call 93;refine(spec_NodeCount n.mesh.g _).mono ?_;rintro e w1 ⟨he,Ba⟩;rw[HC.out] at he;subst he;obtain⟨Ca,Fa,Za⟩:=bcell Ba;(try simp only[szs] at Za);have Bb:=far2;obtain⟨Cb,Fb,Zb⟩:=bcell Bb;(try simp only[szs] at Zb);try (first|obtain⟨Ya,Yb,Yc,Yd⟩:=lts4 Zb|obtain⟨Ya,Yb,Yc⟩:=lts3 Zb|obtain⟨Ya,Yb⟩:=lts2 Zb|have Ya:=lts1 Zb);have hb9:=Ba)|(go_at_call 176;refine(spec_l18Grants n _ k _ (R.out.below bel) OK.out (HND.out k hlt)).mono ?_;rintro e w1 ⟨hg1,Ba⟩;obtain⟨A1,d1,rfl,hk1,hC1⟩:=hg1.read;obtain⟨Ca,Fa,Za⟩:=bcell Ba;(try simp only[szs] at Za);have Bb:=far2;obtain⟨Cb,Fb,Zb⟩:=bcell Bb;(try simp only[szs] at Zb);try (first|obtain⟨Ya,Yb,Yc,Yd⟩:=lts4 Zb|obtain⟨Ya,Yb,Yc⟩:=lts3 Zb|obtain⟨Ya,Yb⟩:=lts2 Zb|have Ya:=lts1 Zb);have hb9:=Ba)|(at_builtin;refine apps_G (W0:=w.alloc (.cells #[.int .i64 n.mesh.g.w,.int .i64 n.mesh.g.h,.slice a1 n.mesh.br.length c1,.slice a2 n.pa.length c2,.slice a3 n.pb.length c3,.slice a4 n.bufs.length c4,.slice a5 n.owners.length c5,.slice a6 n.turns.length c6,.slice a7 n.srcs.length c7,.slice a8 n.arrs.length c8,.int .i64 n.time] 42)) rfl (.tmp 14) (.tmp 17) rfl _ (allTo n k) (grantsN n k) A1 d1 rfl rfl (by exact Kd.R_below HO bel) hC1 bel (by unfold grantsN;omega) ?_;intro v2 w2 HO2 HB2))
      go_roundw
      case rel=>exact⟨k+1,by go_num,by omega,by rw[HS.out];exact HO2,HB2⟩
      case measure=>simp[intOf];omega
    · have i0:¬ (k:Int)<(N:Int):=by omega
      obtain rfl:k=N:=by omega
      go_wp2_with (go_at_call 93;refine(spec_NodeCount n.mesh.g _).mono ?_;rintro e w1 ⟨he,Ba⟩;rw[HC.out] at he;subst he;obtain⟨Ca,Fa,Za⟩:=bcell Ba;(try simp only[szs] at Za);have Bb:=far2;obtain⟨Cb,Fb,Zb⟩:=bcell Bb;(try simp only[szs] at Zb);try (first|obtain⟨Ya,Yb,Yc,Yd⟩:=lts4 Zb|obtain⟨Ya,Yb,Yc⟩:=lts3 Zb|obtain⟨Ya,Yb⟩:=lts2 Zb|have Ya:=lts1 Zb);have hb9:=Ba)
      go_ret
      exact⟨by rw[HN.out];exact⟨_,rfl,Kd.R_lower (by exact Kd.R_below HO bel) (by simp only[szs];omega)⟩,bel⟩
theorem enters_0 {n:Net} {a:Nat} (h:¬ 0<(rl n.srcs a).length):enters n a=false:=by simp only[enters,decide_eq_false h,Bool.false_and]
theorem enters_1 {n:Net} {a:Nat} {t:Int} (h:0<(rl n.srcs a).length) (ht:10*(a:Int)+8+(rf (rl n.srcs a) 0).cls=t):enters n a=decide ((rl n.bufs t).length<3):=by simp only[enters,decide_eq_true h,Bool.true_and,ht]
set_option maxHeartbeats 8000000 in
set_option maxRecDepth 100000 in
theorem impl_entering (n:Net) (q:NA) (bx:Nat) (w:World) (hr:NetR 153 w n q) (hx:Box w bx (netCells n q)) (ok:netOk n=true) :
  Calls Tryz.prog 126 #[.pointer (some ⟨bx,0,none⟩)] w fun e w'=>GotI w w' (enteringN n) e∧Below w.heap.size w w':=by
 have OK:=Lib.hid ok
 have s16:=(srcs_len ok).1
 clear ok
 obtain⟨a1,a2,a3,a4,a5,a6,a7,a8,c1,c2,c3,c4,c5,c6,c7,c8⟩:=q;obtain⟨Rbr,Rpa,Rpb,Rbu,Row,Rtu,Rso,Rar,L1,L2,L3,L4,L5,L6,L7,L8,L9,L10,L11⟩:=hr;have M9:=Lib.hid L9;have M10:=Lib.hid L10;have M11:=Lib.hid L11;clear L9 L10 L11;dsimp only [netCells] at *
 have xl:=hx.lt;have x0:w.cell? ⟨bx,0,none⟩=some (.int .i64 n.mesh.g.w):=hx.get 0;have x1:w.cell? ⟨bx,1,none⟩=some (.int .i64 n.mesh.g.h):=hx.get 1;have x2:w.cell? ⟨bx,2,none⟩=some (.slice a1 n.mesh.br.length c1):=hx.get 2;have x3:w.cell? ⟨bx,3,none⟩=some (.slice a2 n.pa.length c2):=hx.get 3;have x4:w.cell? ⟨bx,4,none⟩=some (.slice a3 n.pb.length c3):=hx.get 4;have x5:w.cell? ⟨bx,5,none⟩=some (.slice a4 n.bufs.length c4):=hx.get 5;have x6:w.cell? ⟨bx,6,none⟩=some (.slice a5 n.owners.length c5):=hx.get 6;have x7:w.cell? ⟨bx,7,none⟩=some (.slice a6 n.turns.length c6):=hx.get 7;have x8:w.cell? ⟨bx,8,none⟩=some (.slice a7 n.srcs.length c7):=hx.get 8;have x9:w.cell? ⟨bx,9,none⟩=some (.slice a8 n.arrs.length c8):=hx.get 9;have x10:w.cell? ⟨bx,10,none⟩=some (.int .i64 n.time):=hx.get 10;clear hx
 go_enter Tryz.func126,Tryz.ntmps126
 go_wp2
 go_loopw [3,12] (fun v i wr=>∃ k:Nat,i=.int .i64 k∧k≤n.srcs.length∧Kd.R (Kd.int .i64) 3 wr w.heap.size (fun _=>True) v (enterTo n k)∧Below w.heap.size w wr) (fun _ i _=>n.srcs.length - (intOf i).toNat)
 case atStart=>exact⟨0,rfl,Nat.zero_le _,R_empty (W0:=w) _ _ (bw_size bel),bel⟩
 case round=>
  obtain⟨k,rfl,hk,HO,HB⟩:=hrel
  obtain⟨Ao,co,rfl⟩:=Kd.R_slice HO
  have hlen:=enterTo_len n k
  obtain⟨hcr,hfr,hzr⟩:=bcell HB
  by_cases hlt:k<n.srcs.length
  ·have i0:(k:Int)<(n.srcs.length:Int):=by omega
   obtain⟨b7,o7,rfl,hb7,Ai,ci,p0,hle,hCi⟩:=rdB_at Rso k hlt
   obtain⟨hnd,h15,h60,hcl⟩:=src_buf OK.out k hlt
   clear hnd
   have yx:bx<wr.heap.size:=by omega
   have y7:b7<wr.heap.size:=by omega
   by_cases hl0:0<(rl n.srcs k).length
   ·obtain⟨d0,d1,d2⟩:=hcl hl0
    obtain⟨b1,o1,rfl,Ba,q0,q1,q2,q3,q4⟩:=rdFl_0 hCi hl0
    have hl1:(0:Int)<((rl n.srcs k).length:Int):=by omega
    have HE:=Lib.hid (fun t=>enters_1 (n:=n) (a:=k) (t:=t) hl0)
    obtain⟨d,hd⟩:∃ d,(rf (rl n.srcs k) 0).cls=d:=⟨_,rfl⟩
    rw[hd] at HE d0 d1 d2 q2
    obtain⟨t,ht⟩:∃ t,10*(k:Int)+8+d=t:=⟨_,rfl⟩
    have HV:=Lib.hid (HE.out t ht)
    have t0:0≤t:=by omega
    have t1:t<(n.bufs.length:Int):=by omega
    have HT:Hid (10*(k:Int)+2*4+d=t):=Lib.hid (by omega)
    obtain⟨b4,o4,rfl,hb4,Bi,di,r0,hlf,hDi⟩:=rdB_int Rbu t t0 t1
    have y1:b1<wr.heap.size:=by omega
    have y4:b4<wr.heap.size:=by omega
    clear hd ht hcl HE
    by_cases h3:(rl n.bufs t).length<3
    ·have f3:((rl n.bufs t).length:Int)<3:=by omega
     have HS:=Lib.hid (enterTo_yes (n:=n) (k:=k) (by rw[HV.out];exact decide_eq_true h3))
     go_wp2_with fail
     refine wp_region_far (wr) (by kernel_rfl) (by kernel_rfl) bel ?_
     have hqc:=far_cell (wr)
     have hqf:=far_frozen (wr)
     repeat (first|go_big_quiet_step ((go_at_call 128;exact far_same (Calls.says (impl_BufferAt k 4 d _ (by omega) (by omega) (by omega) (by omega) d0 d1) (congrArg (Value.int .i64) HT.out))))|quiet_step ((go_at_call 128;exact far_same (Calls.says (impl_BufferAt k 4 d _ (by omega) (by omega) (by omega) (by omega) d0 d1) (congrArg (Value.int .i64) HT.out)))))
     refine wpQuiet_nil ?_
     intro wq hbq
     clear hqc hqf
     obtain⟨hcq,hfq,hzq⟩:=bcell hbq
     try simp only[szs] at hzq
     go_wp2_with (at_builtin;refine app_int (W0:=w) rfl (.tmp 36) (.tmp 38) 26 3 rfl Tryz.underlying26 info_int _ (enterTo n k) _ rfl (by first|rfl|exact congrArg (fun z=>Value.slice (some ⟨z,0,none⟩) 1 1) (World.size_alloc _ _).symm) (by exact Kd.R_below HO bel) bel (by omega) ?_;intro v1 w1 HO1 HB1;obtain⟨Ca,Fa,Za⟩:=bcell HB1;(try simp only[szs] at Za);have Bb:=HB1;have hb9:=HB1)
     go_roundw
     case rel=>exact⟨k+1,by go_num,by omega,by rw[HS.out];exact(by exact Kd.R_below HO1 bel),bel⟩
     case measure=>simp[intOf];omega
    ·have f3:¬ ((rl n.bufs t).length:Int)<3:=by omega
     have HS:=Lib.hid (enterTo_no (n:=n) (k:=k) (by rw[HV.out];exact decide_eq_false h3))
     go_wp2_with fail
     refine wp_region_far (wr) (by kernel_rfl) (by kernel_rfl) bel ?_
     have hqc:=far_cell (wr)
     have hqf:=far_frozen (wr)
     repeat (first|go_big_quiet_step ((go_at_call 128;exact far_same (Calls.says (impl_BufferAt k 4 d _ (by omega) (by omega) (by omega) (by omega) d0 d1) (congrArg (Value.int .i64) HT.out))))|quiet_step ((go_at_call 128;exact far_same (Calls.says (impl_BufferAt k 4 d _ (by omega) (by omega) (by omega) (by omega) d0 d1) (congrArg (Value.int .i64) HT.out)))))
     refine wpQuiet_nil ?_
     intro wq hbq
     clear hqc hqf
     obtain⟨hcq,hfq,hzq⟩:=bcell hbq
     try simp only[szs] at hzq
     go_wp2
     go_roundw
     case rel=>exact⟨k+1,by go_num,by omega,by rw[HS.out];exact(by exact Kd.R_below HO bel),bel⟩
     case measure=>simp[intOf];omega
   ·have hl1:¬ (0:Int)<((rl n.srcs k).length:Int):=by omega
    have HS:=Lib.hid (enterTo_no (enters_0 hl0))
    go_wp2_with fail
    refine wp_region_far (wr) (by kernel_rfl) (by kernel_rfl) bel ?_
    have hqc:=far_cell (wr)
    have hqf:=far_frozen (wr)
    repeat (first|go_big_quiet_step (fail)|quiet_step (fail))
    refine wpQuiet_nil ?_
    intro wq hbq
    clear hqc hqf
    obtain⟨hcq,hfq,hzq⟩:=bcell hbq
    try simp only[szs] at hzq
    go_wp2
    go_roundw
    case rel=>exact⟨k+1,by go_num,by omega,by rw[HS.out];exact(by exact Kd.R_below HO bel),bel⟩
    case measure=>simp[intOf];omega
  ·have i0:¬ (k:Int)<(n.srcs.length:Int):=by omega
   obtain rfl:k=n.srcs.length:=by omega
   go_wp2
   go_ret
   exact⟨⟨_,rfl,HO⟩,HB⟩
set_option maxHeartbeats 8000000 in
set_option maxRecDepth 100000 in
theorem spec_l19Entering (n:Net) (q:NA) (w:World) (hr:NetR 153 w n q) (ok:netOk n=true) :
  Calls Tryz.prog 109 #[.agg (netCells n q)] w fun e w'=>GotI w w' (enteringN n) e∧Below w.heap.size w w':=by
 have OK:=Lib.hid ok
 have s16:=(srcs_len ok).1
 clear ok
 obtain⟨a1,a2,a3,a4,a5,a6,a7,a8,c1,c2,c3,c4,c5,c6,c7,c8⟩:=q;obtain⟨Rbr,Rpa,Rpb,Rbu,Row,Rtu,Rso,Rar,L1,L2,L3,L4,L5,L6,L7,L8,L9,L10,L11⟩:=hr;have M9:=Lib.hid L9;have M10:=Lib.hid L10;have M11:=Lib.hid L11;clear L9 L10 L11;dsimp only [netCells] at *
 go_enter Tryz.func109,Tryz.ntmps109
 go_wp2
 go_loopw [3,4] (fun v i wr=>∃ k:Nat,i=.int .i64 k∧k≤n.srcs.length∧Kd.R (Kd.int .i64) 3 wr (w.alloc (.cells #[.int .i64 n.mesh.g.w,.int .i64 n.mesh.g.h,.slice a1 n.mesh.br.length c1,.slice a2 n.pa.length c2,.slice a3 n.pb.length c3,.slice a4 n.bufs.length c4,.slice a5 n.owners.length c5,.slice a6 n.turns.length c6,.slice a7 n.srcs.length c7,.slice a8 n.arrs.length c8,.int .i64 n.time] 42)).heap.size (fun _=>True) v (enterTo n k)∧Below (w.alloc (.cells #[.int .i64 n.mesh.g.w,.int .i64 n.mesh.g.h,.slice a1 n.mesh.br.length c1,.slice a2 n.pa.length c2,.slice a3 n.pb.length c3,.slice a4 n.bufs.length c4,.slice a5 n.owners.length c5,.slice a6 n.turns.length c6,.slice a7 n.srcs.length c7,.slice a8 n.arrs.length c8,.int .i64 n.time] 42)).heap.size (w.alloc (.cells #[.int .i64 n.mesh.g.w,.int .i64 n.mesh.g.h,.slice a1 n.mesh.br.length c1,.slice a2 n.pa.length c2,.slice a3 n.pb.length c3,.slice a4 n.bufs.length c4,.slice a5 n.owners.length c5,.slice a6 n.turns.length c6,.slice a7 n.srcs.length c7,.slice a8 n.arrs.length c8,.int .i64 n.time] 42)) wr) (fun _ i _=>n.srcs.length - (intOf i).toNat)
 case atStart=>exact⟨0,rfl,Nat.zero_le _,R_empty' (Kd.int .i64) 3 (W0:=w.alloc (.cells #[.int .i64 n.mesh.g.w,.int .i64 n.mesh.g.h,.slice a1 n.mesh.br.length c1,.slice a2 n.pa.length c2,.slice a3 n.pb.length c3,.slice a4 n.bufs.length c4,.slice a5 n.owners.length c5,.slice a6 n.turns.length c6,.slice a7 n.srcs.length c7,.slice a8 n.arrs.length c8,.int .i64 n.time] 42)) (W:=w.alloc (.cells #[.int .i64 n.mesh.g.w,.int .i64 n.mesh.g.h,.slice a1 n.mesh.br.length c1,.slice a2 n.pa.length c2,.slice a3 n.pb.length c3,.slice a4 n.bufs.length c4,.slice a5 n.owners.length c5,.slice a6 n.turns.length c6,.slice a7 n.srcs.length c7,.slice a8 n.arrs.length c8,.int .i64 n.time] 42)) (Nat.le_refl _) (w.heap.size+1) (by simp only[szs]),bel⟩
 case round=>
  obtain⟨k,rfl,hk,HO,HB⟩:=hrel
  obtain⟨Ao,co,rfl⟩:=Kd.R_slice HO
  have hlen:=enterTo_len n k
  obtain⟨hcr,hfr,hzr⟩:=bcell HB
  simp only[szs] at hzr
  have yy1:=lts1 hzr
  by_cases hlt:k<n.srcs.length
  ·have i0:(k:Int)<(n.srcs.length:Int):=by omega
   have k0:(0:Int)≤(k:Int):=by omega
   obtain⟨b7,o7,rfl,hb7,Ai,ci,p0,hle,hCi⟩:=rdB_at Rso k hlt
   obtain⟨hnd,h15,h60,hcl⟩:=src_buf OK.out k hlt
   clear hnd
   have y7:b7<wr.heap.size:=by omega
   have z7:b7<w.heap.size+1:=by omega
   by_cases hl0:0<(rl n.srcs k).length
   ·obtain⟨d0,d1,d2⟩:=hcl hl0
    obtain⟨b1,o1,rfl,Ba,q0,q1,q2,q3,q4⟩:=rdFl_0 hCi hl0
    have hl1:(0:Int)<((rl n.srcs k).length:Int):=by omega
    have HE:=Lib.hid (fun t=>enters_1 (n:=n) (a:=k) (t:=t) hl0)
    obtain⟨d,hd⟩:∃ d,(rf (rl n.srcs k) 0).cls=d:=⟨_,rfl⟩
    rw[hd] at HE d0 d1 d2 q2
    have HV:=Lib.hid (HE.out _ rfl)
    have t0:0≤10*(k:Int)+8+d:=by omega
    obtain⟨b4,o4,rfl,hb4,Bi,di,r0,hlf,hDi⟩:=rdB_int Rbu (10*(k:Int)+8+d) t0 d2
    have y1:b1<wr.heap.size:=by omega
    have y4:b4<wr.heap.size:=by omega
    have z1:b1<w.heap.size+1:=by omega
    have z4:b4<w.heap.size+1:=by omega
    have x5:wr.cell? ⟨w.heap.size,5,none⟩=some (.slice (some ⟨b4,o4,none⟩) n.bufs.length c4):=(hcr _ 5 (by simp only[szs];omega)).trans ((Box.new w _ #[.int .i64 n.mesh.g.w,.int .i64 n.mesh.g.h,.slice a1 n.mesh.br.length c1,.slice a2 n.pa.length c2,.slice a3 n.pb.length c3,.slice (some ⟨b4,o4,none⟩) n.bufs.length c4,.slice a5 n.owners.length c5,.slice a6 n.turns.length c6,.slice (some ⟨b7,o7,none⟩) n.srcs.length c7,.slice a8 n.arrs.length c8,.int .i64 n.time] 42 rfl).get 5)
    have x8:wr.cell? ⟨w.heap.size,8,none⟩=some (.slice (some ⟨b7,o7,none⟩) n.srcs.length c7):=(hcr _ 8 (by simp only[szs];omega)).trans ((Box.new w _ #[.int .i64 n.mesh.g.w,.int .i64 n.mesh.g.h,.slice a1 n.mesh.br.length c1,.slice a2 n.pa.length c2,.slice a3 n.pb.length c3,.slice (some ⟨b4,o4,none⟩) n.bufs.length c4,.slice a5 n.owners.length c5,.slice a6 n.turns.length c6,.slice (some ⟨b7,o7,none⟩) n.srcs.length c7,.slice a8 n.arrs.length c8,.int .i64 n.time] 42 rfl).get 8)
    clear hd hcl HE
    by_cases h3:(rl n.bufs (10*(k:Int)+8+d)).length<3
    ·have f3:((rl n.bufs (10*(k:Int)+8+d)).length:Int)<3:=by omega
     have HS:=Lib.hid (enterTo_yes (n:=n) (k:=k) (by rw[HV.out];exact decide_eq_true h3))
     go_wp2_with fail
     refine wp_region_far (wr) (by kernel_rfl) (by kernel_rfl) bel ?_
     have hqc:=far_cell (wr)
     have hqf:=far_frozen (wr)
     repeat (first|go_big_quiet_step (fail)|quiet_step (fail))
     refine wpQuiet_nil ?_
     intro wq hbq
     clear hqc hqf
     obtain⟨hcq,hfq,hzq⟩:=bcell hbq
     try simp only[szs] at hzq
     go_wp2_with (at_builtin;refine app_int (W0:=w.alloc (.cells #[.int .i64 n.mesh.g.w,.int .i64 n.mesh.g.h,.slice a1 n.mesh.br.length c1,.slice a2 n.pa.length c2,.slice a3 n.pb.length c3,.slice (some ⟨b4,o4,none⟩) n.bufs.length c4,.slice a5 n.owners.length c5,.slice a6 n.turns.length c6,.slice (some ⟨b7,o7,none⟩) n.srcs.length c7,.slice a8 n.arrs.length c8,.int .i64 n.time] 42)) rfl (.tmp 40) (.tmp 42) 26 3 rfl Tryz.underlying26 info_int _ (enterTo n k) _ rfl (by first|rfl|exact congrArg (fun z=>Value.slice (some ⟨z,0,none⟩) 1 1) (World.size_alloc _ _).symm) (by exact Kd.R_below HO bel) bel (by omega) ?_;intro v1 w1 HO1 HB1;obtain⟨Ca,Fa,Za⟩:=bcell HB1;(try simp only[szs] at Za);have Bb:=HB1;have hb9:=HB1)
     go_roundw
     case rel=>exact⟨k+1,by go_num,by omega,by rw[HS.out];exact(by exact Kd.R_below HO1 bel),bel⟩
     case measure=>simp[intOf];omega
    ·have f3:¬ ((rl n.bufs (10*(k:Int)+8+d)).length:Int)<3:=by omega
     have HS:=Lib.hid (enterTo_no (n:=n) (k:=k) (by rw[HV.out];exact decide_eq_false h3))
     go_wp2_with fail
     refine wp_region_far (wr) (by kernel_rfl) (by kernel_rfl) bel ?_
     have hqc:=far_cell (wr)
     have hqf:=far_frozen (wr)
     repeat (first|go_big_quiet_step (fail)|quiet_step (fail))
     refine wpQuiet_nil ?_
     intro wq hbq
     clear hqc hqf
     obtain⟨hcq,hfq,hzq⟩:=bcell hbq
     try simp only[szs] at hzq
     go_wp2
     go_roundw
     case rel=>exact⟨k+1,by go_num,by omega,by rw[HS.out];exact(by exact Kd.R_below HO bel),bel⟩
     case measure=>simp[intOf];omega
   ·have hl1:¬ (0:Int)<((rl n.srcs k).length:Int):=by omega
    have x8:wr.cell? ⟨w.heap.size,8,none⟩=some (.slice (some ⟨b7,o7,none⟩) n.srcs.length c7):=(hcr _ 8 (by simp only[szs];omega)).trans ((Box.new w _ #[.int .i64 n.mesh.g.w,.int .i64 n.mesh.g.h,.slice a1 n.mesh.br.length c1,.slice a2 n.pa.length c2,.slice a3 n.pb.length c3,.slice a4 n.bufs.length c4,.slice a5 n.owners.length c5,.slice a6 n.turns.length c6,.slice (some ⟨b7,o7,none⟩) n.srcs.length c7,.slice a8 n.arrs.length c8,.int .i64 n.time] 42 rfl).get 8)
    have HS:=Lib.hid (enterTo_no (enters_0 hl0))
    go_wp2_with fail
    refine wp_region_far (wr) (by kernel_rfl) (by kernel_rfl) bel ?_
    have hqc:=far_cell (wr)
    have hqf:=far_frozen (wr)
    repeat (first|go_big_quiet_step (fail)|quiet_step (fail))
    refine wpQuiet_nil ?_
    intro wq hbq
    clear hqc hqf
    obtain⟨hcq,hfq,hzq⟩:=bcell hbq
    try simp only[szs] at hzq
    go_wp2
    go_roundw
    case rel=>exact⟨k+1,by go_num,by omega,by rw[HS.out];exact(by exact Kd.R_below HO bel),bel⟩
    case measure=>simp[intOf];omega
  ·have i0:¬ (k:Int)<(n.srcs.length:Int):=by omega
   obtain rfl:k=n.srcs.length:=by omega
   go_wp2
   go_ret
   exact⟨⟨_,rfl,Kd.R_lower (by exact Kd.R_below HO bel) (by simp only[szs];omega)⟩,bel⟩
theorem moves_wrap {n:Net} (ok:netOk n=true):IntKind.i64.wrap (((allGrants n).length:Int)+((enteringN n).length:Int))=((allGrants n).length:Int)+((enteringN n).length:Int)∧wrap64 (((allGrants n).length:Int)+((enteringN n).length:Int))=((allGrants n).length:Int)+((enteringN n).length:Int):=by
  have h1:=allTo_len n (nodeCount n.mesh.g).toNat
  have h2:=count_le n.mesh.g
  have g1:(allGrants n).length≤80:=by unfold allGrants;omega
  have g2:(enteringN n).length≤16:=Nat.le_trans (enterTo_len n n.srcs.length) (srcs_len ok).1
  exact⟨IntWalk.i64_in _ (by omega),by unfold wrap64;omega⟩
theorem allGrants_len (n:Net):(allGrants n).length≤80:=by
  have h1:=allTo_len n (nodeCount n.mesh.g).toNat
  have h2:=count_le n.mesh.g
  unfold allGrants
  omega
theorem cut_fromF (A:Option Addr) (n c:Nat) (h1:1≤n) (W:World):(Instr.slice 145 (.slice A n c) (some (.int .i64 1)) none none).run Tryz.prog W=.ok (.slice (if c=1 then A else A.map (·.add 5)) (n - 1) (c - 1)) W:=by
  obtain⟨i,hi',hs⟩:=Option.map_eq_some_iff.1 info_F
  exact cut_from (P:=Tryz.prog) 145 153 .i64 Tryz.underlying145 hi' 5 (congrArg (fun z=>z.2.1) hs) A n c 1 (by omega) (by omega) W
section
variable {ops:Array Oper} {rest:List Oper} {o:Oper} {a:Act} {Q:Exit→Act→World→Prop}
theorem app_Fg {B:Nat} {W:World} (hgd:o.guard=none) (s x:Operand)
    (ho:o.op=.call { callee:=.builtin .append,args:=#[s,x],argTypes:=#[145,145] })
    (v:Value) (xs:List Flit) (q:Flit) (hs:a.eval s=v) (hx:a.eval x=.slice (some ⟨W.heap.size,0,none⟩) 1 1)
    (HO:kF.R 153 W B (fun _=>True) v xs) (hB:B≤W.heap.size) (hl:xs.length≤100000000)
    (h:∀ v1 w1,kF.R 153 w1 B (fun _=>True) v1 (xs++[q])→W.grownBy w1 v.ownBlock→Anew W v1 v→wpList Tryz.prog ops Q rest (a.put o.dst v1) w1) :
    wpList Tryz.prog ops Q (o::rest) a (W.alloc (.cells #[.int .i64 q.pk,.int .i64 q.dst,.int .i64 q.cls,.bool q.head,.bool q.tail] 153)):=
  Kd.R_append (P:=Tryz.prog) kF (w0:=W) B hgd s x 145 153 (.agg #[.int .i64 0,.int .i64 0,.int .i64 0,.bool false,.bool false]) 32 ho Tryz.underlying145 info_F rfl (by decide) (by omega) v xs q (fCells q) (fun _=>True) (fun _=>False) hs hx rfl (fun _ h=>h.elim) (fun _ _=>trivial) HO (Below.refl _ _) hB (by omega) (fun v1 w1 h1 _ h3 h4=>h v1 w1 h1 h3 (.inr h4))
end
def stTs (n:Net):List Int:=(allGrants n).map (fun g=>behindN n g.node g.port (g.input % 2))
def stMs (n:Net):List Flit:=(allGrants n).map (mvF n)
theorem rg_mem {l:List Grant} {k:Nat} (h:k<l.length):rg l k∈l:=by
  have:rg l (k:Int)=l[k]:=by simp[rg,List.getD_eq_getElem?_getD,h]
  rw[this]
  exact List.getElem_mem h
theorem rg_get {l:List Grant} {k:Nat} (h:k<l.length):rg l (k:Int)=l[k]:=by simp[rg,List.getD_eq_getElem?_getD,h]
theorem stTs_take (n:Net) (k:Nat) (h:k<(allGrants n).length):(stTs n).take (k+1)=(stTs n).take k++[behindN n (rg (allGrants n) k).node (rg (allGrants n) k).port ((rg (allGrants n) k).input % 2)]:=by
  have h2:k<(stTs n).length:=by simp[stTs,h]
  rw[List.take_succ_eq_append_getElem h2,rg_get h]
  simp[stTs]
theorem stMs_take (n:Net) (k:Nat) (h:k<(allGrants n).length):(stMs n).take (k+1)=(stMs n).take k++[mvF n (rg (allGrants n) k)]:=by
  have h2:k<(stMs n).length:=by simp[stMs,h]
  rw[List.take_succ_eq_append_getElem h2,rg_get h]
  simp[stMs]
theorem gs_take (n:Net) (k:Nat) (h:k<(allGrants n).length):(allGrants n).take (k+1)=(allGrants n).take k++[rg (allGrants n) k]:=by
  rw[List.take_succ_eq_append_getElem h,rg_get h]
theorem nodup_take {n:Net} (ok:netOk n=true) {k:Nat} (h:k<(allGrants n).length):∀ g∈(allGrants n).take k,gIdx g≠gIdx (rg (allGrants n) k):=by
  intro g hg e
  have hn:=(grants_GsOk ok).nodup
  obtain⟨j,hj,rfl⟩:=List.getElem_of_mem hg
  rw[List.length_take] at hj
  rw[List.getElem_take,rg_get h] at e
  have:=(List.pairwise_iff_getElem.1 hn) j k (by simp;omega) (by simp;omega) (by omega)
  simp only[List.getElem_map] at this
  exact this e
theorem pop_k {n:Net} (ok:netOk n=true) {k:Nat} (h:k<(allGrants n).length):rl (popL n.bufs ((allGrants n).take k)) (gIdx (rg (allGrants n) k))=rl n.bufs (gIdx (rg (allGrants n) k)):=by
  have hG:=grants_GsOk ok
  exact popL_other _ _ _ (hG.range _ (rg_mem h)).1 (fun g hg=>hG.range g (List.mem_of_mem_take hg)) (nodup_take ok h)
theorem pop_next {n:Net} (ok:netOk n=true) {k:Nat} (h:k<(allGrants n).length):popL n.bufs ((allGrants n).take (k+1))=(popL n.bufs ((allGrants n).take k)).set (gIdx (rg (allGrants n) k)).toNat ((rl n.bufs (gIdx (rg (allGrants n) k))).drop 1):=by
  rw[gs_take n k h,popL_snoc,popB,pop_k ok h]
structure Lens (n x:Net):Prop where
  b:x.bufs.length=n.bufs.length
  o:x.owners.length=n.owners.length
  t:x.turns.length=n.turns.length
  s:x.srcs.length=n.srcs.length
  a:x.arrs.length=n.arrs.length
theorem Lens.push {n x:Net} (h:Lens n x) (m:Net) (g:Grant):Lens n (pushG m x g):=by
  unfold pushG
  split <;> exact⟨by simp[h.b],by simp[h.o],by simp[h.t],by simp[h.s],by simp[h.a]⟩
theorem Lens.pushL {n m:Net}:∀ (gs:List Grant) (x:Net),Lens n x→Lens n (pushL m x gs):=by
  intro gs
  induction gs with
  | nil=>intro x h;exact h
  | cons g gs ih=>intro x h;exact ih _ (h.push m g)
theorem Lens.pop (n:Net):Lens n (afterPop n):=⟨popL_len _ _,rfl,rfl,rfl,rfl⟩
theorem pushL_next (n x:Net) (k:Nat) (h:k<(allGrants n).length):pushL n x ((allGrants n).take (k+1))=pushG n (pushL n x ((allGrants n).take k)) (rg (allGrants n) k):=by
  rw[gs_take n k h]
  simp[pushL]
theorem stTs_get (n:Net) (k:Nat) (h:k<(allGrants n).length):ri (stTs n) k=behindN n (rg (allGrants n) k).node (rg (allGrants n) k).port ((rg (allGrants n) k).input % 2):=by
  rw[ri_get _ k (by simp[stTs,h]),rg_get h]
  simp[stTs]
theorem stMs_get (n:Net) (k:Nat) (h:k<(allGrants n).length):rf (stMs n) k=mvF n (rg (allGrants n) k):=by
  rw[rf_get _ k (by simp[stMs,h]),rg_get h]
  simp[stMs]
def GB (w:World) (b:Nat) (g:Grant):Prop:=w.heap[b]?=some (.cells #[.int .i64 g.node,.int .i64 g.port,.int .i64 g.input] 161 (0,0))
theorem GB.below {w w1:World} {b:Nat} {g:Grant} (h:GB w b g) (hb:Below w.heap.size w w1):GB w1 b g:=blk_below h hb
theorem GB.far {w:World} {b c t:Nat} {g:Grant} (h:GB w b g) (hb:BlkT w c t) (ht:161≠t) (j:Nat) (u:Value):GB (w.setCell ⟨c,j,none⟩ u) b g:=by
  obtain⟨cs,hc⟩:=hb
  exact blk_far (p:=⟨c,j,none⟩) h (blk_ne h hc ht) u
theorem GB.grown {w w1:World} {b lo:Nat} {g:Grant} {v:Value} {y:List Flit} (h:GB w b g) (hg:w.grownBy w1 v.ownBlock) (hr:kF.R 153 w lo (fun _=>True) v y):GB w1 b g:=by
  obtain⟨inner,hin⟩:=Kd.R_own hr
  exact blk_grown h hg (own_ne hin h (by decide))
theorem GB.cells {w:World} {b:Nat} {g:Grant} (h:GB w b g):w.cell? ⟨b,0,none⟩=some (.int .i64 g.node)∧w.cell? ⟨b,1,none⟩=some (.int .i64 g.port)∧w.cell? ⟨b,2,none⟩=some (.int .i64 g.input)∧b<w.heap.size:=⟨blk_cell h 0,blk_cell h 1,blk_cell h 2,blk_lt h⟩
theorem BlkT.grown {w w1:World} {g lo:Nat} {v:Value} {y:List Flit} (h:BlkT w g 145) (hg:w.grownBy w1 v.ownBlock) (hr:kF.R 153 w lo (fun _=>True) v y):BlkT w1 g 145:=by
  obtain⟨cs,hc⟩:=h
  obtain⟨inner,hin⟩:=Kd.R_own hr
  exact⟨cs,blk_grown hc hg (own_ne hin hc (by decide))⟩
theorem flC {w:World} {b off:Nat} {l:List Flit} (h:kF.C w (some ⟨b,off,none⟩) l.length l) (k:Nat) (hk:k<l.length):b<w.heap.size∧w.cell? ⟨b,off+k*5,none⟩=some (.int .i64 (rf l k).pk)∧w.cell? ⟨b,off+k*5+1,none⟩=some (.int .i64 (rf l k).dst)∧w.cell? ⟨b,off+k*5+2,none⟩=some (.int .i64 (rf l k).cls)∧w.cell? ⟨b,off+k*5+3,none⟩=some (.bool (rf l k).head)∧w.cell? ⟨b,off+k*5+4,none⟩=some (.bool (rf l k).tail):=by
  obtain⟨b',off',e,h1,h2⟩:=rdFl_at h k hk
  have e2:=Option.some.inj e
  injection e2 with e3 e4 e5
  subst e3 e4
  exact⟨h1,h2⟩
section
variable {ops:Array Oper} {o:Oper} {a:Act} {Kc:Act→World→Prop} {Q':Exit→Act→World→Prop}
theorem app_FgS {B:Nat} {W:World} (hw:Region.wanted o (yielded ops a.tmps)=true) (s x:Operand)
    (ho:o.op=.call { callee:=.builtin .append,args:=#[s,x],argTypes:=#[145,145] })
    (v:Value) (xs:List Flit) (q:Flit) (hs:a.eval s=v) (hx:a.eval x=.slice (some ⟨W.heap.size,0,none⟩) 1 1)
    (HO:kF.R 153 W B (fun _=>True) v xs) (hB:B≤W.heap.size) (hl:xs.length≤100000000)
    (h:∀ v1 w1,kF.R 153 w1 B (fun _=>True) v1 (xs++[q])→W.grownBy w1 v.ownBlock→Anew W v1 v→Kc (a.put o.dst v1) w1) :
    if Region.wanted o (yielded ops a.tmps)=true then Oper.wp Tryz.prog o a (W.alloc (.cells #[.int .i64 q.pk,.int .i64 q.dst,.int .i64 q.cls,.bool q.head,.bool q.tail] 153)) Kc Q' else Kc (a.put o.dst undef) (W.alloc (.cells #[.int .i64 q.pk,.int .i64 q.dst,.int .i64 q.cls,.bool q.head,.bool q.tail] 153)):=
  Kd.R_append_step (P:=Tryz.prog) kF (w0:=W) B hw s x 145 153 (.agg #[.int .i64 0,.int .i64 0,.int .i64 0,.bool false,.bool false]) 32 ho Tryz.underlying145 info_F rfl (by decide) (by omega) v xs q (fCells q) (fun _=>True) (fun _=>False) hs hx rfl (fun _ h=>h.elim) (fun _ _=>trivial) HO (Below.refl _ _) hB (by omega) (fun v1 w1 h1 _ h3 h4=>h v1 w1 h1 h3 (.inr h4))
end
theorem rl_bound {l:List (List Flit)} (h:∀ x∈l,x.length≤2097152) (t:Nat):(rl l (t:Int)).length≤2097152:=by
  by_cases e:t<l.length
  · exact h _ (rl_mem e)
  · have:rl l (t:Int)=[]:=by simp[rl,List.getD_eq_getElem?_getD,e]
    rw[this]
    simp
theorem all4 {w:World} {lo:Nat} {x:Net} {s:SV} (h:NX w lo x s.q s.v4 s.v7 s.v8) {t:Nat} (ht:t<x.bufs.length):vr (allV s) t=vr s.v4 t:=by
  unfold allV
  exact vr_left (by rw[h.l4];exact ht)
theorem all8 {w:World} {lo:Nat} {x:Net} {s:SV} (h:NX w lo x s.q s.v4 s.v7 s.v8) {t:Nat}:vr (allV s) (x.bufs.length+(x.srcs.length+t))=vr s.v8 t:=by
  unfold allV
  rw[←h.l4,vr_right,←h.l7,vr_right]
theorem ownI5 {w:World} {lo g k:Nat} {x:Net} {q:NA} {v4 v7 v8:List Value} (h:NX w lo x q v4 v7 v8) (ea:q.a5=some ⟨g,0,none⟩) (hk:k<x.owners.length):w.cell? ⟨g,k,none⟩=some (.int .i64 (ri x.owners k))∧w.frozen? ⟨g,k,none⟩=false:=by
  have h4:=h.owners
  rw[ea] at h4
  exact rowI_cell h4 k hk
theorem ownI6 {w:World} {lo g k:Nat} {x:Net} {q:NA} {v4 v7 v8:List Value} (h:NX w lo x q v4 v7 v8) (ea:q.a6=some ⟨g,0,none⟩) (hk:k<x.turns.length):w.cell? ⟨g,k,none⟩=some (.int .i64 (ri x.turns k))∧w.frozen? ⟨g,k,none⟩=false:=by
  have h4:=h.turns
  rw[ea] at h4
  exact rowI_cell h4 k hk
theorem blkI5 {w:World} {lo g:Nat} {x:Net} {q:NA} {v4 v7 v8:List Value} (h:NX w lo x q v4 v7 v8) (ea:q.a5=some ⟨g,0,none⟩) (hp:0<x.owners.length):BlkT w g 3:=by
  obtain⟨i,hin⟩:=Kd.R_own h.owners
  exact own_typed hin g (by rw[ea];rfl)
theorem blkI6 {w:World} {lo g:Nat} {x:Net} {q:NA} {v4 v7 v8:List Value} (h:NX w lo x q v4 v7 v8) (ea:q.a6=some ⟨g,0,none⟩) (hp:0<x.turns.length):BlkT w g 3:=by
  obtain⟨i,hin⟩:=Kd.R_own h.turns
  exact own_typed hin g (by rw[ea];rfl)
theorem bm_ne5 {w0 w:World} {lo bx g b off m c:Nat} {n0 x:Net} {s:SV} (h:ST w0 lo bx n0 s x w) (ea:s.q.a5=some ⟨g,0,none⟩) (em:s.vm=.slice (some ⟨b,off,none⟩) m c) (hp:0<x.owners.length):¬ b=g:=by
  intro e
  obtain⟨cs,hc⟩:=blkI5 h.nx ea hp
  obtain⟨i,hin⟩:=Kd.R_own h.m
  exact own_ne hin hc (by decide) (by rw[em,←e];rfl)
theorem bx_ne6 {w0 w:World} {lo bx g:Nat} {n0 x:Net} {s:SV} (h:ST w0 lo bx n0 s x w) (ea:s.q.a6=some ⟨g,0,none⟩) (hp:0<x.turns.length):¬ bx=g:=by
  obtain⟨cs,hc⟩:=blkI6 h.nx ea hp
  exact blk_ne h.bt hc (by decide)
theorem own_twice {w0 w:World} {lo bx g k:Nat} {n0 x:Net} {s:SV} (h:ST w0 lo bx n0 s x w) (ea:s.q.a5=some ⟨g,0,none⟩) (hk:k<x.owners.length) (a b:Int):ST w0 lo bx n0 s { x with owners:=x.owners.set k b } ((w.setCell ⟨g,k,none⟩ (.int .i64 a)).setCell ⟨g,k,none⟩ (.int .i64 b)):=by
  have h2:=(h.setOwner ea hk a).setOwner (k:=k) ea (by simpa using hk) b
  simp only[List.set_set] at h2
  exact h2
theorem own_t {n:Net} {g:Grant} {F0:Flit} (hF:mvF n g=F0) (h:F0.tail=true):gOwn n g=-1:=by rw[gOwn,hF,if_pos h]
theorem own_f {n:Net} {g:Grant} {F0:Flit} (hF:mvF n g=F0) (h:F0.tail=false):gOwn n g=g.input / 2:=by rw[gOwn,hF,if_neg (by simp[h])]
theorem push_eq4 {n x:Net} {g:Grant} {t at_ tn:Nat} {F0:Flit} {R:List Flit} {v:Int} (h4:g.port=4) (ht:(t:Int)=g.node) (ha:10*g.node+2*g.port+g.input % 2=(at_:Int)) (hn:(tn:Int)=5*g.node+g.port) (hF:mvF n g=F0) (hR:rl x.arrs (t:Int)=R) (hv:gOwn n g=v) :
    pushG n x g={ x with arrs:=x.arrs.set t (R++[F0]),owners:=x.owners.set at_ v,turns:=x.turns.set tn ((g.input+1) % 10) }:=by
  unfold pushG
  rw[if_pos h4,hv,hF,show (gAt g).toNat=at_ by unfold gAt;omega,show (gTurn g).toNat=tn by unfold gTurn;omega,show g.node.toNat=t by omega,←ht,hR]
theorem push_eq {n x:Net} {g:Grant} {t at_ tn:Nat} {F0:Flit} {R:List Flit} {v:Int} (h4:¬ g.port=4) (ht:(t:Int)=gTo n g) (ha:10*g.node+2*g.port+g.input % 2=(at_:Int)) (hn:(tn:Int)=5*g.node+g.port) (hF:mvF n g=F0) (hR:rl x.bufs (t:Int)=R) (hv:gOwn n g=v) :
    pushG n x g={ x with bufs:=x.bufs.set t (R++[F0]),owners:=x.owners.set at_ v,turns:=x.turns.set tn ((g.input+1) % 10) }:=by
  unfold pushG
  rw[if_neg h4,hv,hF,show (gAt g).toNat=at_ by unfold gAt;omega,show (gTurn g).toNat=tn by unfold gTurn;omega,show (gTo n g).toNat=t by omega,←ht,hR]
theorem Lens.enter {n m:Net}:∀ (ks:List Int) (x:Net),Lens n x→Lens n (enterL m x ks):=by
  intro ks
  induction ks with
  | nil=>intro x h;exact h
  | cons a ks ih=>intro x h;exact ih _ ⟨by simp[enterB,h.b],h.o,h.t,by simp[enterB,h.s],h.a⟩
theorem own_facts7 {w:World} {lo g j c len:Nat} {x:Net} {q:NA} {v4 u7 v8:List Value} {A:Option Addr} (h:NX w lo x q v4 u7 v8) (ea:q.a7=some ⟨g,0,none⟩) (hj:j<x.srcs.length) (hv:vr u7 j=.slice A len c):w.cell? ⟨g,j,none⟩=some (.slice A len c)∧w.frozen? ⟨g,j,none⟩=false:=by
  have h4:=h.srcs
  rw[ea] at h4
  have:=own_cell h4 hj
  rw[hv] at this
  exact this
theorem row_read7 {w:World} {lo j c:Nat} {x:Net} {q:NA} {v4 u7 v8:List Value} {A:Option Addr} {xs:List Flit} (h:NX w lo x q v4 u7 v8) (hj:j<x.srcs.length) (hv:vr u7 j=.slice A xs.length c) (he:rl x.srcs j=xs):kF.C w A xs.length xs:=by
  have:=h.row7 j hj
  rw[hv,he] at this
  exact(Kd.R_rowX this).2.2
theorem anew_ge {w:World} {u v:Value} {g lo hi:Nat} (h1:w.heap.size≤g) (h2:w.heap.size≤lo) (h:At2 g lo hi u):Anew w u v:=by
  cases e:u.ownBlock with
  | none=>exact .inl e
  | some b=>
    refine .inr (.inr ⟨b,e,?_⟩)
    have:=h b e
    omega
theorem time_ok {n:Net} (ok:netOk n=true):0≤n.time∧n.time≤1000000:=by
  obtain⟨_,_,_,_,_,_,_,_,_,_,h⟩:=netOk_parts ok
  exact inside_iff.1 h
theorem step_same (n:Net):(stepN n).mesh=n.mesh∧(stepN n).pa=n.pa∧(stepN n).pb=n.pb:=by
  have h1:=enterL_time n (enteringN n) (afterPush n)
  have h2:=pushL_same n (allGrants n) (afterPop n)
  exact⟨h1.2.1.trans h2.2.1,h1.2.2.1.trans h2.2.2.1,h1.2.2.2.1.trans h2.2.2.2⟩
theorem step_lens (n:Net):Lens n (stepN n):=by
  have:=Lens.enter (enteringN n) _ ((Lens.pop n).pushL (allGrants n) (m:=n)) (m:=n)
  exact⟨this.b,this.o,this.t,this.s,this.a⟩
theorem netCells_step (n:Net) (q:NA):(netCells n q).setIfInBounds 10 (.int .i64 (n.time+1))=netCells (stepN n) q:=by
  obtain⟨h1,h2,h3⟩:=step_same n
  obtain⟨l1,l2,l3,l4,l5⟩:=step_lens n
  unfold netCells
  rw[h1,h2,h3,l1,l2,l3,l4,l5]
  rfl
theorem own_facts8 {w:World} {lo g j c len:Nat} {x:Net} {q:NA} {v4 v7 u8:List Value} {A:Option Addr} (h:NX w lo x q v4 v7 u8) (ea:q.a8=some ⟨g,0,none⟩) (hj:j<x.arrs.length) (hv:vr u8 j=.slice A len c):w.cell? ⟨g,j,none⟩=some (.slice A len c)∧w.frozen? ⟨g,j,none⟩=false:=by
  have h4:=h.arrs
  rw[ea] at h4
  have:=own_cell h4 hj
  rw[hv] at this
  exact this
theorem own_facts {w:World} {lo g j c len:Nat} {x:Net} {q:NA} {u4 v7 v8:List Value} {A:Option Addr} (h:NX w lo x q u4 v7 v8) (ea:q.a4=some ⟨g,0,none⟩) (hj:j<x.bufs.length) (hv:vr u4 j=.slice A len c):w.cell? ⟨g,j,none⟩=some (.slice A len c)∧w.frozen? ⟨g,j,none⟩=false:=by
  have h4:=h.bufs
  rw[ea] at h4
  have:=own_cell h4 hj
  rw[hv] at this
  exact this
theorem anew_lit {w:World} {u v:Value} {hi:Nat} (h:At2 w.heap.size (w.heap.size+1) hi u):Anew w u v:=by
  cases e:u.ownBlock with
  | none=>exact .inl e
  | some b=>
    refine .inr (.inr ⟨b,e,?_⟩)
    have:=h b e
    omega
theorem row_read {w:World} {lo j c:Nat} {x:Net} {q:NA} {u4 v7 v8:List Value} {A:Option Addr} {xs:List Flit} (h:NX w lo x q u4 v7 v8) (hj:j<x.bufs.length) (hv:vr u4 j=.slice A xs.length c) (he:rl x.bufs j=xs):kF.C w A xs.length xs:=by
  have:=h.row4 j hj
  rw[hv,he] at this
  exact(Kd.R_rowX this).2.2
theorem lens_ok {n:Net} (ok:netOk n=true):0<n.bufs.length∧0<n.owners.length∧0<n.turns.length∧0<n.srcs.length∧0<n.arrs.length:=by
  obtain⟨h0,h1,h2,h3,h4,h5,_⟩:=netOk_parts ok
  have:=sized_count (classesOk_sized h0).1
  omega
end Go.Proofs.YtodbglncccgdbaaGreat
namespace NoC
def BI (n x:Net) (T:List Int):Prop:=x.bufs.length=n.bufs.length∧∀ i:Nat,i<n.bufs.length→(∀ f∈rl x.bufs i,f.cls=((i % 2:Nat):Int)∧flitOk n.mesh.g f=true)∧(rl x.bufs i).length≤3∧((i:Int) ∉ T→(rl x.bufs i).length≤(rl n.bufs i).length)
theorem bufOk_iff {g:Grid} {i:Nat} {l:List Flit}:bufOk g i l=true↔(∀ f∈l,f.cls=((i % 2:Nat):Int)∧flitOk g f=true)∧l.length≤3:=by
  simp only[bufOk,areFl,Bool.and_eq_true,decide_eq_true_eq,List.all_eq_true,beq_iff_eq]
  constructor
  · rintro ⟨⟨h1,h2⟩,h3⟩
    exact⟨fun f hf=>⟨h2 f hf,h3 f hf⟩,h1⟩
  · rintro ⟨h1,h2⟩
    exact⟨⟨h2,fun f hf=>(h1 f hf).1⟩,fun f hf=>(h1 f hf).2⟩
theorem pop_mem (t:Nat):∀ (gs:List Grant) (bs:List (List Flit)),∀ f∈rl (popL bs gs) t,f∈rl bs t:=by
  intro gs
  induction gs with
  | nil=>intro bs f hf;exact hf
  | cons g gs ih=>
    intro bs f hf
    have h1:=ih (popB bs g) f hf
    unfold popB at h1
    by_cases e:(gIdx g).toNat=t
    · by_cases h:t<bs.length
      · have e2:rl (bs.set (gIdx g).toNat ((rl bs (gIdx g)).drop 1)) t=(rl bs (gIdx g)).drop 1:=by simp[rl,List.getD_eq_getElem?_getD,e,h]
        have e3:rl bs (gIdx g)=rl bs (t:Int):=by simp[rl,e]
        rw[e2,e3] at h1
        exact List.mem_of_mem_drop h1
      · have e2:rl (bs.set (gIdx g).toNat ((rl bs (gIdx g)).drop 1)) t=[]:=by simp[rl,List.getD_eq_getElem?_getD,h]
        rw[e2] at h1
        simp at h1
    · have e2:rl (bs.set (gIdx g).toNat ((rl bs (gIdx g)).drop 1)) t=rl bs t:=by simp[rl,List.getD_eq_getElem?_getD,e]
      rwa [e2] at h1
theorem BI_pop {n:Net} (ok:netOk n=true):BI n (afterPop n) []:=by
  obtain⟨_,_,_,_,_,_,hb,_⟩:=netOk_parts ok
  refine⟨popL_len _ _,fun i hi=>?_⟩
  have h:=bufOk_iff.1 (hb i hi)
  have hl:=pop_rows i (allGrants n) n.bufs
  exact⟨fun f hf=>h.1 f (pop_mem i _ _ f hf),Nat.le_trans hl h.2,fun _=>hl⟩
theorem BI_add {n x y:Net} {T:List Int} {t:Nat} {f:Flit} (h:BI n x T) (ht:t<n.bufs.length) (hn:(t:Int) ∉ T) (hl:(rl n.bufs (t:Int)).length<3) (hc:f.cls=((t % 2:Nat):Int)) (hf:flitOk n.mesh.g f=true) (hy:y.bufs=x.bufs.set t (rl x.bufs (t:Int)++[f])):BI n y (T++[(t:Int)]):=by
  obtain⟨h0,h1⟩:=h
  refine⟨by rw[hy,List.length_set];exact h0,fun i hi=>?_⟩
  rw[hy]
  by_cases e:t=i
  · subst e
    have e2:rl (x.bufs.set t (rl x.bufs (t:Int)++[f])) (t:Int)=rl x.bufs (t:Int)++[f]:=by
      have:t<x.bufs.length:=by omega
      simp[rl,List.getD_eq_getElem?_getD,this]
    rw[e2]
    obtain⟨a1,a2,a3⟩:=h1 t hi
    have:=a3 hn
    refine⟨fun z hz=>?_,by rw[List.length_append,List.length_singleton];omega,fun hh=>absurd (by simp) hh⟩
    rcases List.mem_append.1 hz with hz|hz
    · exact a1 z hz
    · rw[List.mem_singleton.1 hz]
      exact⟨hc,hf⟩
  · have e2:rl (x.bufs.set t (rl x.bufs (t:Int)++[f])) (i:Int)=rl x.bufs (i:Int):=by simp[rl,List.getD_eq_getElem?_getD,e]
    rw[e2]
    obtain⟨a1,a2,a3⟩:=h1 i hi
    exact⟨a1,a2,fun hh=>a3 (fun hm=>hh (List.mem_append_left _ hm))⟩
theorem flit_of {n:Net} (ok:netOk n=true) {g:Grant} (h:GOne n g):(mvF n g).cls=g.input % 2∧flitOk n.mesh.g (mvF n g)=true:=by
  have h1:=(h.at ok).buf0 h.full
  have e:mvF n g=rf (bufOf n g.node g.input) 0:=rfl
  rw[e]
  refine⟨h1.2,?_⟩
  unfold flitOk
  rw[h1.1,h1.2]
  have:=h.i0
  simp only[Bool.true_and]
  exact inside_iff.2 ⟨by omega,by omega⟩
def tgts (n:Net) (gs:List Grant):List Int:=(gs.filter (fun g=>!(g.port == 4))).map (gTo n)
theorem tgts_cons4 {n:Net} {g:Grant} {gs:List Grant} (h:g.port=4):tgts n (g::gs)=tgts n gs:=by simp[tgts,h]
theorem tgts_cons {n:Net} {g:Grant} {gs:List Grant} (h:¬ g.port=4):tgts n (g::gs)=gTo n g::tgts n gs:=by simp[tgts,h]
theorem BI_push {n:Net} (ok:netOk n=true):∀ (gs:List Grant) (x:Net) (T:List Int),BI n x T→(∀ g∈gs,GOne n g)→(tgts n gs).Nodup→(∀ t∈tgts n gs,t ∉ T)→BI n (pushL n x gs) (T++tgts n gs):=by
  intro gs
  induction gs with
  | nil=>intro x T h _ _ _;simpa [tgts,pushL] using h
  | cons g gs ih=>
    intro x T h hone hnd hT
    show BI n (pushL n (pushG n x g) gs) _
    have hg:=hone g (by simp)
    by_cases h4:g.port=4
    · rw[tgts_cons4 h4] at hnd hT ⊢
      refine ih _ _ ⟨by rw[pushG_len];exact h.1,fun i hi=>?_⟩ (fun y hy=>hone y (by simp[hy])) hnd hT
      rw[pushG_bufs,if_pos h4]
      exact h.2 i hi
    · rw[tgts_cons h4] at hnd hT ⊢
      obtain⟨t0,t1,_,q1,q2,q3,te⟩:=hg.to ok h4
      obtain⟨t,ht⟩:∃ t:Nat,gTo n g=(t:Int):=⟨(gTo n g).toNat,by omega⟩
      have hf:=flit_of ok hg
      have hroom:=(hg.live h4).2
      have hi0:=hg.i0
      rw[List.nodup_cons] at hnd
      rw[ht] at t1 te hroom hnd hT ⊢
      have hb:=BI_add (y:=pushG n x g) (t:=t) (f:=mvF n g) h (by omega) (hT t (by simp)) hroom (by rw[hf.1];omega) hf.2 (by rw[pushG_bufs,if_neg h4];unfold addB;rw[ht,Int.toNat_natCast])
      have:=ih _ _ hb (fun y hy=>hone y (by simp[hy])) hnd.2 (fun z hz hm=>by
        rcases List.mem_append.1 hm with hm|hm
        · exact hT z (by simp[hz]) hm
        · rw[List.mem_singleton.1 hm] at hz
          exact hnd.1 hz)
      rw[List.append_assoc] at this
      exact this
theorem tgts_nodup {n:Net} (ok:netOk n=true):(tgts n (allGrants n)).Nodup:=by
  unfold tgts List.Nodup
  rw[List.pairwise_map]
  refine(List.Pairwise.sublist (List.filter_sublist) (grants_pw n)).imp_of_mem (fun {a b} ha hb hab=>?_)
  have ha1:=List.mem_filter.1 ha
  have Ba:=List.mem_filter.1 hb
  have a4:¬ a.port=4:=by simpa using ha1.2
  have b4:¬ b.port=4:=by simpa using Ba.2
  intro e
  have h:=gTo_inj ok (grants_one ha1.1) (grants_one Ba.1) a4 b4 e
  rcases hab with h1|⟨h1,h2,_⟩
  · rw[h.1] at h1;exact absurd h1 (Int.lt_irrefl _)
  · rw[h.2] at h2;exact absurd h2 (Int.lt_irrefl _)
theorem BI_afterPush {n:Net} (ok:netOk n=true):BI n (afterPush n) (tgts n (allGrants n)):=by
  have:=BI_push ok (allGrants n) (afterPop n) [] (BI_pop ok) (fun g hg=>grants_one hg) (tgts_nodup ok) (fun _ _=>by simp)
  rw[List.nil_append] at this
  exact this
theorem tgts_mod {n:Net} (ok:netOk n=true):∀ t∈tgts n (allGrants n),t % 10≤7:=by
  intro t ht
  unfold tgts at ht
  obtain⟨g,hg,rfl⟩:=List.mem_map.1 ht
  have hg1:=List.mem_filter.1 hg
  have h4:¬ g.port=4:=by simpa using hg1.2
  have h:=grants_one hg1.1
  obtain⟨t0,t1,_,q1,q2,q3,te⟩:=h.to ok h4
  have:=h.i0
  omega
theorem BI_enter {n:Net} (ok:netOk n=true):∀ (ks:List Int) (x:Net) (T:List Int),BI n x T→(∀ a∈ks,∃ i:Nat,a=(i:Int)∧i<n.srcs.length∧enters n i=true)→ks.Pairwise (·<·)→(∀ a∈ks,eTo n a ∉ T)→∃ T',BI n (enterL n x ks) T':=by
  intro ks
  induction ks with
  | nil=>intro x T h _ _ _;exact⟨T,h⟩
  | cons a ks ih=>
    intro x T h hk hp hT
    obtain⟨i,rfl,hi,he⟩:=hk a (by simp)
    rw[List.pairwise_cons] at hp
    simp only[enters,Bool.and_eq_true,decide_eq_true_eq] at he
    obtain⟨_,_,_,hcl⟩:=src_buf ok i hi
    obtain⟨d0,d1,d2⟩:=hcl he.1
    obtain⟨t,ht⟩:∃ t:Nat,eTo n (i:Int)=(t:Int):=⟨(eTo n (i:Int)).toNat,by unfold eTo;omega⟩
    have ht':10*(i:Int)+8+(rf (rl n.srcs (i:Int)) 0).cls=(t:Int):=ht
    have hb:=BI_add (y:=enterB n x (i:Int)) (t:=t) (f:=rf (rl n.srcs (i:Int)) 0) h (by omega) (by rw[←ht];exact hT _ (by simp)) (by rw[←ht'];exact he.2) (by omega) (by
      obtain⟨_,_,_,_,_,_,_,hs,_⟩:=netOk_parts ok
      have h1:=hs i hi
      simp only[srcOk,Bool.and_eq_true,decide_eq_true_eq] at h1
      have h2:=areFl_get h1.2 0 he.1
      unfold flitOk
      rw[show ((0:Nat):Int)=0 from rfl] at h2
      rw[h2.1,h2.2];rfl) (by show x.bufs.set (eTo n (i:Int)).toNat (rl x.bufs (eTo n (i:Int))++[_])=_;rw[ht,Int.toNat_natCast])
    refine ih _ _ hb (fun y hy=>hk y (by simp[hy])) hp.2 (fun y hy hm=>?_)
    rcases List.mem_append.1 hm with hm|hm
    · exact hT y (by simp[hy]) hm
    · have e:=List.mem_singleton.1 hm
      obtain⟨j,rfl,hj,hej⟩:=hk y (by simp[hy])
      have hlt:=hp.1 (j:Int) hy
      simp only[enters,Bool.and_eq_true,decide_eq_true_eq] at hej
      obtain⟨_,_,_,hclj⟩:=src_buf ok j hj
      obtain⟨b0,b1,b2⟩:=hclj hej.1
      rw[←ht'] at e
      unfold eTo at e
      omega
theorem step_bufs {n:Net} (ok:netOk n=true):∀ i:Nat,i<n.bufs.length→bufOk n.mesh.g i (rl (stepN n).bufs i)=true:=by
  obtain⟨T',h⟩:=BI_enter ok (enteringN n) (afterPush n) _ (BI_afterPush ok) (enterTo_spec n n.srcs.length).1 (enterTo_spec n n.srcs.length).2 (fun a ha hm=>by
    have h7:=tgts_mod ok _ hm
    obtain⟨i,rfl,hi,he⟩:=(enterTo_spec n n.srcs.length).1 a ha
    simp only[enters,Bool.and_eq_true,decide_eq_true_eq] at he
    obtain⟨_,_,_,hcl⟩:=src_buf ok i hi
    obtain⟨d0,d1,d2⟩:=hcl he.1
    unfold eTo at h7
    omega)
  intro i hi
  have:=h.2 i hi
  exact bufOk_iff.2 ⟨this.1,this.2.1⟩
theorem ri_set (l:List Int) (k:Nat) (v:Int) (i:Nat):ri (l.set k v) i=if k=i∧i<l.length then v else ri l i:=by
  by_cases e:k=i
  · subst e
    by_cases h:k<l.length
    · simp[ri,List.getD_eq_getElem?_getD,h]
    · simp[ri,List.getD_eq_getElem?_getD,h]
  · simp[ri,List.getD_eq_getElem?_getD,e]
theorem push_ints {n:Net} (ok:netOk n=true):∀ (gs:List Grant) (x:Net),(∀ g∈gs,GOne n g)→∀ i:Nat,((-1≤ri x.owners i∧ri x.owners i≤4)→(-1≤ri (pushL n x gs).owners i∧ri (pushL n x gs).owners i≤4))∧((0≤ri x.turns i∧ri x.turns i≤9)→(0≤ri (pushL n x gs).turns i∧ri (pushL n x gs).turns i≤9)):=by
  intro gs
  induction gs with
  | nil=>intro x _ i;exact⟨id,id⟩
  | cons g gs ih=>
    intro x hone i
    have hg:=hone g (by simp)
    have h0:=hg.i0
    have h9:=hg.i9
    have ho:(pushG n x g).owners=x.owners.set (gAt g).toNat (gOwn n g):=by unfold pushG;split <;> rfl
    have ht:(pushG n x g).turns=x.turns.set (gTurn g).toNat ((g.input+1) % 10):=by unfold pushG;split <;> rfl
    have hw:-1≤gOwn n g∧gOwn n g≤4:=by unfold gOwn;split <;> omega
    obtain⟨i1,i2⟩:=ih (pushG n x g) (fun y hy=>hone y (by simp[hy])) i
    refine⟨fun h=>i1 ?_,fun h=>i2 ?_⟩
    · rw[ho,ri_set]
      split
      · exact hw
      · exact h
    · rw[ht,ri_set]
      split
      · omega
      · exact h
theorem enter_rows (n:Net) (t:Nat):∀ (ks:List Int) (x:Net),(∀ f∈rl (enterL n x ks).srcs t,f∈rl x.srcs t)∧(rl (enterL n x ks).srcs t).length≤(rl x.srcs t).length:=by
  intro ks
  induction ks with
  | nil=>intro x;exact⟨fun f h=>h,Nat.le_refl _⟩
  | cons a ks ih=>
    intro x
    obtain⟨h1,h2⟩:=ih (enterB n x a)
    have core:(∀ f∈rl (enterB n x a).srcs t,f∈rl x.srcs t)∧(rl (enterB n x a).srcs t).length≤(rl x.srcs t).length:=by
      show (∀ f∈rl (x.srcs.set a.toNat ((rl x.srcs a).drop 1)) t,f∈rl x.srcs t)∧(rl (x.srcs.set a.toNat ((rl x.srcs a).drop 1)) t).length≤(rl x.srcs t).length
      by_cases e:a.toNat=t
      · by_cases h:t<x.srcs.length
        · have e2:rl (x.srcs.set a.toNat ((rl x.srcs a).drop 1)) t=(rl x.srcs a).drop 1:=by simp[rl,List.getD_eq_getElem?_getD,e,h]
          have e3:rl x.srcs a=rl x.srcs (t:Int):=by simp[rl,e]
          rw[e2,e3]
          exact⟨fun f hf=>List.mem_of_mem_drop hf,by rw[List.length_drop];omega⟩
        · have e2:rl (x.srcs.set a.toNat ((rl x.srcs a).drop 1)) t=[]:=by simp[rl,List.getD_eq_getElem?_getD,h]
          rw[e2]
          exact⟨fun f hf=>by simp at hf,by simp⟩
      · have e2:rl (x.srcs.set a.toNat ((rl x.srcs a).drop 1)) t=rl x.srcs t:=by simp[rl,List.getD_eq_getElem?_getD,e]
        rw[e2]
        exact⟨fun f hf=>hf,Nat.le_refl _⟩
    exact⟨fun f hf=>core.1 f (h1 f hf),Nat.le_trans h2 core.2⟩
theorem step_parts (n:Net):(stepN n).mesh=n.mesh∧(stepN n).pa=n.pa∧(stepN n).pb=n.pb∧(stepN n).owners=(afterPush n).owners∧(stepN n).turns=(afterPush n).turns∧(stepN n).arrs=(afterPush n).arrs:=by
  have h1:=enterL_time n (enteringN n) (afterPush n)
  have h2:=pushL_same n (allGrants n) (afterPop n)
  exact⟨h1.2.1.trans h2.2.1,h1.2.2.1.trans h2.2.2.1,h1.2.2.2.1.trans h2.2.2.2,h1.2.2.2.2.1,h1.2.2.2.2.2.1,h1.2.2.2.2.2.2⟩
theorem push_lens (n:Net):∀ (gs:List Grant) (x:Net),(pushL n x gs).bufs.length=x.bufs.length∧(pushL n x gs).owners.length=x.owners.length∧(pushL n x gs).turns.length=x.turns.length∧(pushL n x gs).arrs.length=x.arrs.length:=by
  intro gs
  induction gs with
  | nil=>intro x;exact⟨rfl,rfl,rfl,rfl⟩
  | cons g gs ih=>
    intro x
    obtain⟨h1,h2,h3,h4⟩:=ih (pushG n x g)
    have e:(pushG n x g).bufs.length=x.bufs.length∧(pushG n x g).owners.length=x.owners.length∧(pushG n x g).turns.length=x.turns.length∧(pushG n x g).arrs.length=x.arrs.length:=by unfold pushG;split <;> simp
    exact⟨h1.trans e.1,h2.trans e.2.1,h3.trans e.2.2.1,h4.trans e.2.2.2⟩
theorem enter_lens (n:Net):∀ (ks:List Int) (x:Net),(enterL n x ks).bufs.length=x.bufs.length∧(enterL n x ks).srcs.length=x.srcs.length:=by
  intro ks
  induction ks with
  | nil=>intro x;exact⟨rfl,rfl⟩
  | cons a ks ih=>
    intro x
    obtain⟨h1,h2⟩:=ih (enterB n x a)
    exact⟨h1.trans (by simp[enterB]),h2.trans (by simp[enterB])⟩
theorem step_ok {n:Net} (ok:netOk n=true) (ht:n.time<1000000):netOk (stepN n)=true:=by
  obtain⟨c,s1,s2,s3,s4,s5,hb,hs,ho,hu,hm⟩:=netOk_parts ok
  obtain⟨e1,e2,e3,e4,e5,e6⟩:=step_parts n
  obtain⟨p1,p2,p3,p4⟩:=push_lens n (allGrants n) (afterPop n)
  obtain⟨l1,l2⟩:=enter_lens n (enteringN n) (afterPush n)
  have b1:(stepN n).bufs.length=n.bufs.length:=by
    show (enterL n (afterPush n) (enteringN n)).bufs.length=_
    rw[l1]
    exact p1.trans (popL_len _ _)
  have b2:(stepN n).owners.length=n.owners.length:=by rw[e4];exact p2
  have b3:(stepN n).turns.length=n.turns.length:=by rw[e5];exact p3
  have b4:(stepN n).srcs.length=n.srcs.length:=by
    show (enterL n (afterPush n) (enteringN n)).srcs.length=_
    rw[l2]
    unfold afterPush
    rw[pushL_srcs]
    rfl
  have b5:(stepN n).arrs.length=n.arrs.length:=by rw[e6];exact p4
  rw[inside_iff] at hm
  simp only[netOk,shapeOk,Bool.and_eq_true,decide_eq_true_eq,allI_iff]
  rw[e1,e2,e3,b1,b2,b3,b4,b5]
  refine⟨⟨⟨⟨⟨⟨c,⟨⟨⟨⟨s1,s2⟩,s3⟩,s4⟩,s5⟩⟩,step_bufs ok⟩,fun i hi=>?_⟩,fun i hi=>?_⟩,fun i hi=>?_⟩,?_⟩
  · have h1:=hs i hi
    simp only[srcOk,areFl,Bool.and_eq_true,decide_eq_true_eq,List.all_eq_true] at h1 ⊢
    obtain⟨r1,r2⟩:=enter_rows n i (enteringN n) (afterPush n)
    have e:(afterPush n).srcs=n.srcs:=by unfold afterPush;rw[pushL_srcs];rfl
    rw[e] at r1 r2
    exact⟨Nat.le_trans r2 h1.1,fun f hf=>h1.2 f (r1 f hf)⟩
  · have h1:=inside_iff.1 (ho i hi)
    rw[e4]
    exact inside_iff.2 ((push_ints ok (allGrants n) (afterPop n) (fun g hg=>grants_one hg) i).1 h1)
  · have h1:=inside_iff.1 (hu i hi)
    rw[e5]
    exact inside_iff.2 ((push_ints ok (allGrants n) (afterPop n) (fun g hg=>grants_one hg) i).2 h1)
  · have e:(stepN n).time=n.time+1:=rfl
    rw[e,inside_iff]
    omega
theorem step_still {n:Net} (h1:allGrants n=[]) (h2:enteringN n=[]):stepN n={ n with time:=n.time+1 }:=by
  have a:afterPush n=n:=by unfold afterPush afterPop;rw[h1];rfl
  unfold stepN
  rw[h2,a]
  rfl
end NoC
