/- Lemmas for laws of this seat, for all inputs: StS. -/
import Derived.Test.YtodbglncccgdbaaGreatQ12
import Derived.Test.YtodbglncccgdbaaGreatQ4
import Derived.Test.YtodbglncccgdbaaGreatQ9
import Derived.Test.YtodbglncccgdbaaGreatQ13
import Derived.Test.YtodbglncccgdbaaGreatQ11
set_option linter.unusedVariables false
set_option linter.unusedSimpArgs false
namespace Go.Proofs.YtodbglncccgdbaaGreat
open Go.RowKit Go.Proofs.YtodbglncccgdbaaGreatW.PrintWords
open NoC
theorem specL_next (n x:Net) (k:Nat) (h:k<(allGrants n).length):specL n x ((allGrants n).take (k+1))=specG n (specL n x ((allGrants n).take k)) (rg (allGrants n) k):=by
  rw[gs_take n k h]
  simp[specL]
theorem Lens.popN {n x:Net} (h:Lens n x) (g:Grant):Lens n (popN x g):=⟨by simp[NoC.popN,popB_len,h.b],h.o,h.t,h.s,h.a⟩
theorem Lens.specL {n:Net}:∀ (gs:List Grant) (x:Net),Lens n x→Lens n (specL n x gs):=by
  intro gs
  induction gs with
  | nil=>intro x h;exact h
  | cons g gs ih=>intro x h;exact ih _ ((h.popN g).push n g)
theorem popN_rows (x:Net) (g:Grant) (t:Nat):(rl (popN x g).bufs t).length≤(rl x.bufs t).length:=pop_rows t [g] x.bufs
theorem specL_rows (n:Net) (t:Nat):∀ (gs:List Grant) (x:Net),(rl (specL n x gs).bufs t).length≤(rl x.bufs t).length+gs.length∧(rl (specL n x gs).arrs t).length≤(rl x.arrs t).length+gs.length:=by
  intro gs
  induction gs with
  | nil=>intro x;exact⟨Nat.le_refl _,Nat.le_refl _⟩
  | cons g gs ih=>
    intro x
    obtain⟨h1,h2⟩:=ih (specG n x g)
    obtain⟨h3,h4⟩:=push_rows n (popN x g) g t
    have h5:=popN_rows x g t
    have h6:(rl (popN x g).arrs t).length=(rl x.arrs t).length:=rfl
    have h7:specL n x (g::gs)=specL n (specG n x g) gs:=rfl
    rw[h7]
    unfold specG at *
    simp only[List.length_cons]
    exact⟨by omega,by omega⟩
theorem specG_keep {n x:Net} {g:Grant} {j:Nat} (h0:0≤gIdx g) (hne:gIdx g≠(j:Int)):(rl x.bufs (j:Int)).length≤(rl (specG n x g).bufs (j:Int)).length:=by
  have h1:rl (popN x g).bufs (j:Int)=rl x.bufs (j:Int):=by
    unfold NoC.popN popB
    have:¬ (gIdx g).toNat=j:=by omega
    simp[rl,List.getD_eq_getElem?_getD,List.getElem?_set,this]
  unfold specG
  rw[pushG_bufs,←h1]
  split
  · exact Nat.le_refl _
  · unfold addB
    by_cases e:(gTo n g).toNat=j
    · by_cases hl:j<(popN x g).bufs.length
      · simp[rl,List.getD_eq_getElem?_getD,List.getElem?_set,e,hl]
      · simp[rl,List.getD_eq_getElem?_getD,List.getElem?_set,e,hl]
    · simp[rl,List.getD_eq_getElem?_getD,List.getElem?_set,e]
theorem specL_keep {n:Net} {j:Nat}:∀ (gs:List Grant) (x:Net),(∀ g∈gs,0≤gIdx g∧gIdx g≠(j:Int))→(rl x.bufs (j:Int)).length≤(rl (specL n x gs).bufs (j:Int)).length:=by
  intro gs
  induction gs with
  | nil=>intro x _;exact Nat.le_refl _
  | cons g gs ih=>
    intro x h
    have h1:=ih (specG n x g) (fun y hy=>h y (List.mem_cons_of_mem _ hy))
    have h2:=h g (List.mem_cons_self ..)
    exact Nat.le_trans (specG_keep h2.1 h2.2) h1
def FBx (w:World) (b:Nat) (f:Flit):Prop:=w.heap[b]?=some (.cells #[.int .i64 f.pk,.int .i64 f.dst,.int .i64 f.cls,.bool f.head,.bool f.tail] 153 (0,0))
theorem FBx.below {w w1:World} {b:Nat} {g:Flit} (h:FBx w b g) (hb:Below w.heap.size w w1):FBx w1 b g:=blk_below h hb
theorem FBx.far {w:World} {b c t:Nat} {g:Flit} (h:FBx w b g) (hb:BlkT w c t) (ht:153≠t) (j:Nat) (u:Value):FBx (w.setCell ⟨c,j,none⟩ u) b g:=by
  obtain⟨cs,hc⟩:=hb
  exact blk_far (p:=⟨c,j,none⟩) h (blk_ne h hc ht) u
theorem FBx.grown {w w1:World} {b:Nat} {g:Flit} {v:Value} (h:FBx w b g) (hg:w.grownBy w1 v.ownBlock) (hne:¬ some b=v.ownBlock):FBx w1 b g:=blk_grown h hg hne
theorem FBx.cells {w:World} {b:Nat} {f:Flit} (h:FBx w b f):w.cell? ⟨b,0,none⟩=some (.int .i64 f.pk)∧w.cell? ⟨b,1,none⟩=some (.int .i64 f.dst)∧w.cell? ⟨b,2,none⟩=some (.int .i64 f.cls)∧w.cell? ⟨b,3,none⟩=some (.bool f.head)∧w.cell? ⟨b,4,none⟩=some (.bool f.tail)∧b<w.heap.size:=⟨blk_cell h 0,blk_cell h 1,blk_cell h 2,blk_cell h 3,blk_cell h 4,blk_lt h⟩
theorem own_turn_ne {w:World} {lo g5 g6:Nat} {x:Net} {q:NA} {v4 v7 v8:List Value} (h:NX w lo x q v4 v7 v8) (e5:q.a5=some ⟨g5,0,none⟩) (e6:q.a6=some ⟨g6,0,none⟩) (p5:0<x.owners.length) (p6:0<x.turns.length):¬ g6=g5:=by
  have h3:=h.apI 3 4 (by omega) (by omega)
  have e1:vr (iv x q) 3=.slice q.a5 x.owners.length q.c5:=rfl
  have e2:vr (iv x q) 4=.slice q.a6 x.turns.length q.c6:=rfl
  rw[e1,e2,e5,e6] at h3
  rcases h3 with h4|h4|h4|h4
  · have:x.owners.length=0:=h4
    omega
  · have:x.turns.length=0:=h4
    omega
  · cases h4
  · intro e
    subst e
    exact h4 rfl
theorem ST.withE {w0 w:World} {lo bx:Nat} {n0 x:Net} {s:SV} {v:Value} {es:List Int} (h:ST w0 lo bx n0 s x w) (he:Kd.R (Kd.int .i64) 3 w w0.heap.size (fun _=>True) v es):ST w0 lo bx n0 { s with ve:=v,es:=es } x w:=⟨h.nx,h.bt,h.g,h.t,he,h.m,h.ma,h.blw,h.low,h.box,h.top⟩

set_option maxHeartbeats 16000000 in
set_option maxRecDepth 100000 in
theorem spec_l19Step (n:Net) (q:NA) (w:World) (hr:NetR 153 w n q) (ok:netOk n=true) :
  Calls Tryz.prog 110 #[.agg (netCells n q)] w fun e w'=>GotNX w w' (stepN n) e∧Below w.heap.size w w':=by
 have HR:=Lib.hid hr
 have OK:=Lib.hid ok
 have nbq:=hr.nb
 have NBQ:=Lib.hid nbq
 obtain⟨l4,l5,l6,l7,l8⟩:=lens_ok ok
 have gl:=allGrants_len n
 have el:(enteringN n).length≤16:=Nat.le_trans (enterTo_len n n.srcs.length) (srcs_len ok).1
 have HOne:Hid (∀ k:Nat,k<(allGrants n).length→GOne n (rg (allGrants n) k)):=Lib.hid (fun k hk=>grants_one (rg_mem hk))
 clear ok nbq
 obtain⟨a1,a2,a3,a4,a5,a6,a7,a8,c1,c2,c3,c4,c5,c6,c7,c8⟩:=q;obtain⟨Rbr,Rpa,Rpb,Rbu,Row,Rtu,Rso,Rar,L1,L2,L3,L4,L5,L6,L7,L8,L9,L10,L11⟩:=hr;have M9:=Lib.hid L9;have M10:=Lib.hid L10;have M11:=Lib.hid L11;clear L9 L10 L11;dsimp only [netCells] at *
 go_enter Tryz.func110,Tryz.ntmps110
 go_wp2_with (first|(go_at_call 167;refine(spec_l15Copy n _ _ (HR.out.below bel)).mono ?_;rintro e w1 ⟨hg1,Ba⟩;obtain⟨qq,v4,v7,v8,rfl,HN0⟩:=hg1;obtain⟨b1,b2,b3,b4,b5,b6,b7,b8,d1,d2,d3,d4,d5,d6,d7,d8⟩:=qq;dsimp only [netCells];have HN1:=Lib.hid HN0;clear HN0;have HBC:=Ba;obtain⟨Ca,Fa,Za⟩:=bcell Ba;(try simp only[szs] at Za);have Bb:=far2;obtain⟨Cb,Fb,Zb⟩:=bcell Bb;(try simp only[szs] at Zb);try (first|obtain⟨Ya,Yb,Yc,Yd⟩:=lts4 Zb|obtain⟨Ya,Yb,Yc⟩:=lts3 Zb|obtain⟨Ya,Yb⟩:=lts2 Zb|have Ya:=lts1 Zb);have hb9:=Ba)|(go_at_call 108;refine(spec_l18All n _ _ (HR.out.below bel) OK.out).mono ?_;rintro e w2 ⟨hg1,Ba⟩;obtain⟨vg,rfl,HG0⟩:=hg1;obtain⟨Ag,cg,rfl⟩:=Kd.R_slice HG0;have HG1:=Lib.hid HG0;clear HG0;obtain⟨Ca,Fa,Za⟩:=bcell Ba;(try simp only[szs] at Za);have Bb:=far2;obtain⟨Cb,Fb,Zb⟩:=bcell Bb;(try simp only[szs] at Zb);try (first|obtain⟨Ya,Yb,Yc,Yd⟩:=lts4 Zb|obtain⟨Ya,Yb,Yc⟩:=lts3 Zb|obtain⟨Ya,Yb⟩:=lts2 Zb|have Ya:=lts1 Zb);have hb9:=Ba))
 obtain⟨w0,e0⟩:∃ z,z=w1.alloc (.cells (netCells n ⟨b1,b2,b3,b4,b5,b6,b7,b8,d1,d2,d3,d4,d5,d6,d7,d8⟩) 42):=⟨_,rfl⟩
 have HB2:Below w0.heap.size w0 w2:=by rw[e0];exact hb9
 have HG:=Lib.hid (show kG.R 161 w2 w0.heap.size (fun _=>True) (.slice Ag (allGrants n).length cg) (allGrants n) by rw[e0];exact HG1.out)
 have hz0:w0.heap.size=w1.heap.size+1:=by rw[e0];simp only[szs]
 have hw01:Below w1.heap.size w1 w0:=by rw[e0];exact bw_alloc _ (bw_refl w1)
 obtain⟨bx,ebx⟩:∃ z,z=w1.heap.size:=⟨_,rfl⟩
 have hBT:BT w0 bx n ⟨b1,b2,b3,b4,b5,b6,b7,b8,d1,d2,d3,d4,d5,d6,d7,d8⟩:=by rw[e0,ebx];exact blk_new w1 _
 rw[←ebx]
 obtain⟨lo,elo⟩:∃ z,z=w.heap.size+2:=⟨_,rfl⟩
 have hN:NX w0 lo n ⟨b1,b2,b3,b4,b5,b6,b7,b8,d1,d2,d3,d4,d5,d6,d7,d8⟩ v4 v7 v8:=(HN1.out.lower (by simp only[szs];omega)).below hw01
 have hb0:Below w.heap.size w w0:=bw_then (bw_then (bw_alloc _ (bw_alloc _ (bw_refl w))) HBC) hw01
 have sw:w.heap.size+2≤w1.heap.size:=by have:=bw_size HBC;simp only[szs] at this;omega
 have X0:Box w0 w.heap.size #[.int .i64 n.mesh.g.w,.int .i64 n.mesh.g.h,.slice a1 n.mesh.br.length c1,.slice a2 n.pa.length c2,.slice a3 n.pb.length c3,.slice a4 n.bufs.length c4,.slice a5 n.owners.length c5,.slice a6 n.turns.length c6,.slice a7 n.srcs.length c7,.slice a8 n.arrs.length c8,.int .i64 n.time]:=((((Box.new w w.heap.size #[.int .i64 n.mesh.g.w,.int .i64 n.mesh.g.h,.slice a1 n.mesh.br.length c1,.slice a2 n.pa.length c2,.slice a3 n.pb.length c3,.slice a4 n.bufs.length c4,.slice a5 n.owners.length c5,.slice a6 n.turns.length c6,.slice a7 n.srcs.length c7,.slice a8 n.arrs.length c8,.int .i64 n.time] 42 rfl).alloc _).below HBC)).below hw01
 have HX0:=Lib.hid X0
 have HZB:Hid (BN w0 (w.heap.size+1)):=Lib.hid (((BT.bn (by have hn:=BT.new (w.alloc (.cells #[.int .i64 n.mesh.g.w,.int .i64 n.mesh.g.h,.slice a1 n.mesh.br.length c1,.slice a2 n.pa.length c2,.slice a3 n.pb.length c3,.slice a4 n.bufs.length c4,.slice a5 n.owners.length c5,.slice a6 n.turns.length c6,.slice a7 n.srcs.length c7,.slice a8 n.arrs.length c8,.int .i64 n.time] 42)) ⟨⟨⟨0,0⟩,[]⟩,[],[],[],[],[],[],[],0⟩ ⟨none,none,none,none,none,none,none,none,0,0,0,0,0,0,0,0⟩;rw[World.size_alloc] at hn;exact hn)).below HBC).below hw01)
 obtain⟨g4,ea4,t4,s4⟩:=hN.form4 l4
 obtain⟨g7,ea7,t7,s7⟩:=hN.form7 l7
 obtain⟨g8,ea8,t8,s8⟩:=hN.form8 l8
 obtain⟨g5,ea5,t5,s5⟩:=rowI_form hN.owners l5
 obtain⟨g6,ea6,t6,s6⟩:=rowI_form hN.turns l6
 dsimp only at ea4 ea5 ea6 ea7 ea8
 subst ea4 ea5 ea6 ea7 ea8
 have HTop:Hid (∀ g,((some (⟨g4,0,none⟩:Addr))=some ⟨g,0,none⟩∨(some (⟨g5,0,none⟩:Addr))=some ⟨g,0,none⟩∨(some (⟨g6,0,none⟩:Addr))=some ⟨g,0,none⟩∨(some (⟨g7,0,none⟩:Addr))=some ⟨g,0,none⟩∨(some (⟨g8,0,none⟩:Addr))=some ⟨g,0,none⟩)→lo≤g∧g<w0.heap.size):=Lib.hid (fun g h=>by
  rcases h with h|h|h|h|h <;> (simp only[Option.some.injEq,Addr.mk.injEq,and_true] at h;subst h;exact⟨by assumption,by assumption⟩))
 have HS0:Hid (ST w0 lo bx n ⟨⟨b1,b2,b3,some ⟨g4,0,none⟩,some ⟨g5,0,none⟩,some ⟨g6,0,none⟩,some ⟨g7,0,none⟩,some ⟨g8,0,none⟩,d1,d2,d3,d4,d5,d6,d7,d8⟩,v4,v7,v8,(.slice Ag (allGrants n).length cg),(.slice none 0 0),(.slice none 0 0),(.slice none 0 0),allGrants n,[],[],[]⟩ n w2):=Lib.hid ⟨hN.below HB2,hBT.below HB2,HG.out,Kd.R_nil _ _ _ _ _,Kd.R_nil _ _ _ _ _,Kd.R_nil _ _ _ _ _,fun i hi=>apart_comm (.inl rfl),Below.cut HB2 (by omega),by omega,⟨by omega,by omega⟩,HTop.out⟩
 have HHB:=Lib.hid hb0
 repeat (first|clear Ca|clear Fa|clear Za|clear Ba|clear hb9|clear Cb|clear Fb|clear Zb|clear Bb|clear Ya|clear Yb|clear Yc|clear Yd)
 have sb1:bx<w0.heap.size:=by omega
 have sb2:w.heap.size+2≤bx:=by omega
 have sl1:lo≤w.heap.size+2:=by omega
 have sl2:w.heap.size+2≤lo:=by omega
 clear hN hBT hb0 X0 HN1 HG1 HG HB2 hw01 HBC e0 t4 t5 t6 t7 t8 s4 s5 s6 s7 s8 ebx elo hz0 sw
 go_loopw [5] (fun i wr=>∃ (k:Nat) (u4 u8:List Value),i=.int .i64 k∧k≤(allGrants n).length∧Hid (ST w0 lo bx n ⟨⟨b1,b2,b3,some ⟨g4,0,none⟩,some ⟨g5,0,none⟩,some ⟨g6,0,none⟩,some ⟨g7,0,none⟩,some ⟨g8,0,none⟩,d1,d2,d3,d4,d5,d6,d7,d8⟩,u4,v7,u8,(.slice Ag (allGrants n).length cg),(.slice none 0 0),(.slice none 0 0),(.slice none 0 0),allGrants n,[],[],[]⟩ (specL n n ((allGrants n).take k)) wr)) (fun i _=>(allGrants n).length - (intOf i).toNat)
 case atStart=>exact⟨0,v4,v8,rfl,Nat.zero_le _,Lib.hid HS0.out⟩
 case round=>
  clear HS0
  obtain⟨k,u4,u8,rfl,hk,HS⟩:=hrel
  obtain⟨wp,ewp⟩:∃ z,z=wr:=⟨_,rfl⟩
  subst ewp
  have zz:=HS.out.size
  have zl:=HS.out.low
  have xl:=HS.out.bt.lt
  by_cases hlt:k<(allGrants n).length
  ·have k0:(0:Int)≤(k:Int):=by omega
   have i0:(k:Int)<((allGrants n).length:Int):=by omega
   have hone:=HOne.out k hlt
   have hrng:=(grants_GsOk OK.out).range _ (rg_mem hlt)
   have hnd:=nodup_take OK.out hlt
   have hmd:=(hone.at OK.out).idx
   have hfull:=hone.full
   have hnx:=specL_next n n k hlt
   have hlen:=Lens.specL ((allGrants n).take k) n ⟨rfl,rfl,rfl,rfl,rfl⟩
   have hrb:=fun t:Nat=>specL_rows n t ((allGrants n).take k) n
   have hgr:=HS.out.g
   try dsimp only at hgr
   obtain⟨bg,og,eAg,hbg,p0,p1,p2⟩:=rdG_at (Kd.R_rowX hgr).2.2 k hlt
   obtain⟨g,eg⟩:∃ g,rg (allGrants n) k=g:=⟨_,rfl⟩
   rw[eg] at p0 p1 p2 hone hrng hnd hmd hfull hnx
   obtain⟨j,hj⟩:∃ j:Nat,10*g.node+g.input=(j:Int):=⟨(10*g.node+g.input).toNat,by have:=hrng.1;unfold gIdx at this;omega⟩
   have hgj:gIdx g=(j:Int):=hj
   have hmv:mvF n g=rf (rl n.bufs (j:Int)) 0:=by unfold mvF;rw[hgj]
   rw[hgj] at hrng hnd hfull
   obtain⟨x,hx⟩:∃ x,specL n n ((allGrants n).take k)=x:=⟨_,rfl⟩
   have hkeep:(rl n.bufs (j:Int)).length≤(rl x.bufs (j:Int)).length:=by rw[←hx];exact specL_keep _ n (fun y hy=>⟨((grants_GsOk OK.out).range y (List.mem_of_mem_take hy)).1,hnd y hy⟩)
   rw[hx] at HS hlen hnx
   have HRB:Hid (∀ t:Nat,(rl x.bufs (t:Int)).length≤9000000∧(rl x.arrs (t:Int)).length≤9000000):=Lib.hid (fun t=>by
    have h1:=hrb t
    rw[hx,List.length_take] at h1
    have h5:=rl_bound NBQ.out.h9 t
    have h6:=rl_bound NBQ.out.h11 t
    omega)
   have hjl:j<n.bufs.length:=by omega
   have hjx:j<x.bufs.length:=by have:=hlen.b;omega
   -- the flit that moves,out of the given network
   have HBp:Below w.heap.size w wp:=bw_trans HHB.out HS.out.blw (by omega)
   have hRp:=(HR.out.below HBp).bufs
   obtain⟨bi,oi,ea4,hbi,Ai,ci,r0,hle,hCi⟩:=rdB_at hRp j hjl
   try dsimp only at ea4
   obtain⟨ri,roi,eAi,hri,f0,f1,f2,f3,f4⟩:=rdFl_0 hCi hfull
   obtain⟨F0,hF0⟩:∃ F0,mvF n g=F0:=⟨_,rfl⟩
   rw[←hmv,hF0] at f0 f1 f2 f3 f4
   have x5:wp.cell? ⟨w.heap.size,5,none⟩=some (.slice a4 n.bufs.length c4):=(cell_low HS.out.blw (by omega) 5).trans (HX0.out.get 5)
   have xi:w.heap.size<wp.heap.size:=by omega
   subst ea4 eAi
   -- the row that loses it
   have hrow:=HS.out.nx.row4 j hjx
   try dsimp only at hrow
   obtain⟨As,cs,hv⟩:=Kd.R_slice hrow
   rw[hv] at hrow
   obtain⟨Rj,hRj⟩:∃ R,rl x.bufs (j:Int)=R:=⟨_,rfl⟩
   rw[hRj] at hrow hv hkeep
   have hRjl:Rj.length≤9000000:=by have:=(HRB.out j).1;rw[←hRj];omega
   have hRj0:0<Rj.length:=by omega
   obtain⟨_,hlc,hCs⟩:=Kd.R_rowX hrow
   have n0:=hone.i0
   have n9:=hone.i9
   have p0':=hone.p0
   have p4':=hone.p4
   have a0:=hmd.1
   have a15:=hmd.2.1
   have aA:g.node<(n.arrs.length:Int):=hmd.2.2.2.2.2.2.2
   have aO:10*g.node+10≤(n.owners.length:Int):=hmd.2.2.2.2.1
   have aT:5*g.node+5≤(n.turns.length:Int):=hmd.2.2.2.2.2.1
   have j0:(0:Int)≤(j:Int):=by omega
   have j1:(j:Int)<(n.bufs.length:Int):=by omega
   have lpos:(0:Int)<((rl n.bufs (j:Int)).length:Int):=by omega
   have lposj:(0:Int)<(Rj.length:Int):=by omega
   obtain⟨D,hD⟩:∃ D,Rj.drop 1=D:=⟨_,rfl⟩
   have hDl:D.length=Rj.length - 1:=by rw[←hD,List.length_drop]
   have hDn:D.length≤10000000:=by omega
   obtain⟨A2,hA2⟩:∃ A2,(if cs=1 then As else As.map (·.add 5))=A2:=⟨_,rfl⟩
   have hcut:∀ W:World,(Instr.slice 145 (.slice As Rj.length cs) (some (.int .i64 1)) none none).run Tryz.prog W=.ok (.slice A2 D.length (cs - 1)) W:=fun W=>by rw[cut_fromF As _ cs (by omega) W,hA2,hDl]
   have HD:Hid (∀ W,kF.C W As Rj.length Rj→kF.C W A2 D.length D):=Lib.hid (fun W h=>by
    have:=Kd.C_drop h (m:=1) (by omega) hlc
    rw[hD,show 1*kF.sz=5 from rfl,hA2] at this
    exact this)
   have HPN:Hid (NoC.popN x g={ x with bufs:=x.bufs.set j D }):=Lib.hid (by unfold NoC.popN popB;rw[hgj,Int.toNat_natCast,hRj,hD])
   have HNX:=Lib.hid hnx
   have HLen:=Lib.hid hlen
   have HF0:=Lib.hid hF0
   have HV:=Lib.hid hv
   have HRJ:=Lib.hid hRj
   have HJX:=Lib.hid hjx
   have htm:g.input.tmod 2=g.input % 2:=Int.tmod_eq_emod_of_nonneg n0
   have htm2:(g.input+1).tmod 10=(g.input+1) % 10:=Int.tmod_eq_emod_of_nonneg (by omega)
   have htq:g.input.tdiv 2=g.input / 2:=Int.tdiv_eq_ediv_of_nonneg n0
   have mm0:0≤g.input % 2:=by omega
   have mm1:g.input % 2≤1:=by omega
   have HTO:Hid (¬ g.port=4→0≤gTo n g∧gTo n g<(n.bufs.length:Int)):=Lib.hid (fun h4=>by have:=hone.to OK.out h4;exact⟨this.1,this.2.1⟩)
   have HTR:Hid (¬ g.port=4→0≤nextNode n.mesh.g g.node g.port∧nextNode n.mesh.g g.node g.port≤15∧0≤opposite g.port∧opposite g.port≤3):=Lib.hid (fun h4=>by
    obtain⟨_,_,t1,t2,t3,t4,_⟩:=hone.to OK.out h4
    exact⟨t2,(node_bounds t1).2.2.2,t3,t4⟩)
   have HON:=Lib.hid hone
   clear hone hrng hnd hmd hfull hnx hlen hrb hgr hmv hgj hkeep hrow hlc hCs hD hDl hA2 hv hRj hjx eg hx hF0 hRp hCi hle
   subst eAg
   obtain⟨W3,hW3⟩:∃ W3,W3=(wp.alloc (.cells #[.int .i64 g.node,.int .i64 g.port,.int .i64 g.input] 161)).alloc (.cells #[.int .i64 F0.pk,.int .i64 F0.dst,.int .i64 F0.cls,.bool F0.head,.bool F0.tail] 153):=⟨_,rfl⟩
   have hb3:Below wp.heap.size wp W3:=by subst hW3;exact bw_alloc _ (bw_alloc _ (bw_refl wp))
   have HG3:Hid (GB W3 wp.heap.size g):=Lib.hid (by subst hW3;exact GB.below (blk_new wp _) (bw_alloc _ (bw_refl _)))
   have HF3:Hid (FBx W3 (wp.heap.size+1) F0):=Lib.hid (by subst hW3;have:=blk_new (wp.alloc (.cells #[.int .i64 g.node,.int .i64 g.port,.int .i64 g.input] 161)) (.cells #[.int .i64 F0.pk,.int .i64 F0.dst,.int .i64 F0.cls,.bool F0.head,.bool F0.tail] 153);rw[World.size_alloc] at this;exact this)
   have HS3:=Lib.hid (HS.out.below hb3)
   have hz3:=bw_size hb3
   have hz3b:wp.heap.size+1<W3.heap.size:=blk_lt HF3.out
   go_wp2_with fail
   rw[←hW3]
   clear hW3 f0 f1 f2 f3 f4 x5 r0 p0 p1 p2
   obtain⟨s1,s2⟩:=own_facts (x:=x) HS3.out.nx rfl HJX.out HV.out
   have HC3:=Lib.hid (HD.out _ (row_read (x:=x) HS3.out.nx HJX.out HV.out HRJ.out))
   have y5:W3.cell? ⟨bx,5,none⟩=some (.slice (some ⟨g4,0,none⟩) n.bufs.length d4):=HS3.out.bt.box.get 5
   have yx:bx<W3.heap.size:=HS3.out.bt.lt
   have lw3:lo≤W3.heap.size:=Nat.le_trans HS3.out.low HS3.out.size
   have O4:g4<W3.heap.size:=by have:=(HTop.out g4 (.inl rfl)).2;omega
   have HB4:Hid (BlkT W3 g4 145):=Lib.hid (own_typed HS3.out.nx.bufs g4 rfl)
   have nbx4:¬ bx=g4:=by
    obtain⟨cs,hc⟩:=HB4.out
    exact blk_ne HS3.out.bt hc (by decide)
   have S1:=Lib.hid s1
   have S2:=Lib.hid s2
   refine wp_region_tx (CK W3 none) (fun i=>[.pointer (some ⟨bx,5,none⟩),.slice (some ⟨g4,0,none⟩) n.bufs.length d4,.int .i64 (j:Int),undef,.pointer (some ⟨bx,5,none⟩),.slice (some ⟨g4,0,none⟩) n.bufs.length d4,.int .i64 (j:Int),.pointer (some ⟨g4,j,none⟩),.slice As Rj.length cs,.slice A2 D.length (cs - 1),undef,.pointer (some ⟨g4,j,none⟩)].getD i undef) 12 [(0,.quiet),(1,.quiet),(2,.quiet),(3,.chain),(4,.quiet),(5,.quiet),(6,.quiet),(7,.quiet),(8,.quiet),(9,.quiet),(10,.chain),(11,.quiet)] (by kernel_rfl) (by kernel_rfl) (by kernel_rfl) (by kernel_rfl) (by kernel_rfl) (by kernel_rfl) (by kernel_rfl) (by kernel_rfl) CK.drew (fun W=>W=W3.drew) rfl ?_
   refine wpTx_q (some 47) rfl rfl (by rfl) (fun W hC=>?_) ?_
   ·clear hC
    go_simp
    try rfl
   try simp only[Act.put,nms]
   refine wpTx_q (some 48) rfl rfl (by rfl) (fun W hC=>?_) ?_
   ·have:=hC.cell yx (by simp) y5
    clear hC
    go_simp
    try rfl
   try simp only[Act.put,nms]
   refine wpTx_q (some 49) rfl rfl (by rfl) (fun W hC=>?_) ?_
   ·clear hC
    go_simp
    try rfl
   try simp only[Act.put,nms]
   refine wpTx_c (some 50) rfl rfl (by rfl) () (fun _=>.slice (some ⟨W3.heap.size,0,none⟩) 0 0) (fun _ W=>W=W3.drew.alloc (.cells #[] 153)) (fun W hF hC=>?_) (fun _=>?_)
   ·subst hF
    refine LoOp.val (v:=.slice (some ⟨W3.heap.size,0,none⟩) 0 0) (w1:=W3.drew.alloc (.cells #[] 153)) ?_ ⟨(),rfl,hC.alloc _,rfl⟩
    go_simp
    try rfl
   try simp only[Act.put,nms]
   refine wpTx_q (some 51) rfl rfl (by rfl) (fun W hC=>?_) ?_
   ·clear hC
    go_simp
    try rfl
   try simp only[Act.put,nms]
   refine wpTx_q (some 52) rfl rfl (by rfl) (fun W hC=>?_) ?_
   ·have:=hC.cell yx (by simp) y5
    clear hC
    go_simp
    try rfl
   try simp only[Act.put,nms]
   refine wpTx_q (some 53) rfl rfl (by rfl) (fun W hC=>?_) ?_
   ·clear hC
    go_simp
    try rfl
   try simp only[Act.put,nms]
   refine wpTx_q (some 54) rfl rfl (by rfl) (fun W hC=>?_) ?_
   ·clear hC
    go_simp
    try rfl
   try simp only[Act.put,nms]
   refine wpTx_q (some 55) rfl rfl (by rfl) (fun W hC=>?_) ?_
   ·have:=hC.cell O4 (by simp) S1.out
    clear hC
    go_simp
    try rfl
   try simp only[Act.put,nms]
   refine wpTx_q (some 56) rfl rfl (by rfl) (fun W hC=>?_) ?_
   ·clear hC
    go_simp
    try rfl
   try simp only[Act.put,nms]
   refine wpTx_c (some 57) rfl rfl (by rfl) ((none,0):Option Addr × Nat) (fun y=>.slice y.1 D.length y.2) (fun y W9=>kF.R 153 W9 lo (fun _=>True) (.slice y.1 D.length y.2) D∧Below W3.heap.size W3 W9∧At2 W3.heap.size (W3.drew.alloc (.cells #[] 153)).heap.size W9.heap.size (.slice y.1 D.length y.2)) (fun W hF hC=>?_) (fun yv=>?_)
   ·subst hF
    refine LoOp.of_if (ops:=#[]) rfl rfl (by simp) (by rfl) (copyS_F (ops:=#[]) (W:=W3.drew.alloc (.cells #[] 153)) (B:=lo) (by rfl) (.tmp 50) (.tmp 56) rfl W3.heap.size D A2 (cs - 1) rfl rfl (lit_new rfl) lw3 (Kd.C_below HC3.out (bw_alloc _ (bw_drew (bw_refl _)))) (by simp only[szs];omega) hDn ?_)
    intro v2 w4 HD4 hb4 ht4
    obtain⟨A4,d4x,rfl⟩:=Kd.R_slice HD4
    exact⟨(A4,d4x),rfl,hC.below hb4,HD4,bw_then (bw_alloc _ (bw_drew (bw_refl _))) hb4,ht4⟩
   try simp only[Act.put,nms]
   refine wpTx_q (some 58) rfl rfl (by rfl) (fun W hC=>?_) ?_
   ·clear hC
    go_simp
    try rfl
   try simp only[Act.put,nms]
   refine wpTx_z (fun w4 hF hC=>?_)
   obtain⟨A4,d9⟩:=yv
   obtain⟨HD4,hb44,ht4⟩:=hF
   dsimp only at HD4 ht4
   have k1:=hC.cell O4 (by simp) S1.out
   have k2:=hC.frozen O4 (by simp) S2.out
   clear hC
   refine⟨_,rfl,by rfl,?_⟩
   go_simp
   all_goals
    obtain⟨W5,e5⟩:∃ z,z=w4.setCell ⟨g4,j,none⟩ (.slice A4 D.length d9):=⟨_,rfl⟩
    have HAT4:Hid (Anew W3 (.slice A4 D.length d9) (vr u4 j)):=Lib.hid (anew_ge (by first|omega|(simp only[szs];omega)) (by first|omega|(simp only[szs];omega)) ht4)
    have HS5:Hid (ST w0 lo bx n ⟨⟨b1,b2,b3,some ⟨g4,0,none⟩,some ⟨g5,0,none⟩,some ⟨g6,0,none⟩,some ⟨g7,0,none⟩,some ⟨g8,0,none⟩,d1,d2,d3,d4,d5,d6,d7,d8⟩,(u4.set j (.slice A4 D.length d9)),v7,u8,(.slice (some ⟨bg,og,none⟩) (allGrants n).length cg),(.slice none 0 0),(.slice none 0 0),(.slice none 0 0),allGrants n,[],[],[]⟩ (NoC.popN x g) W5):=Lib.hid (by
     have hh:=HS3.out.setBuf (g:=g4) (k:=j) (u:=.slice A4 D.length d9) (y:=D) rfl HJX.out (grown_below _ hb44) (Kd.R_mono HD4 (fun _ _=>trivial)) HAT4.out
     rw[e5,HPN.out]
     exact hh)
    have HG5:Hid (GB W5 wp.heap.size g):=Lib.hid (by rw[e5];exact(HG3.out.below hb44).far (HB4.out.below hb44) (by decide) _ _)
    have HF5:Hid (FBx W5 (wp.heap.size+1) F0):=Lib.hid (by rw[e5];exact(HF3.out.below hb44).far (HB4.out.below hb44) (by decide) _ _)
    have HNF:Hid (∀ t:Nat,t<x.bufs.length→¬ some (wp.heap.size+1)=(vr (u4.set j (.slice A4 D.length d9)) t).ownBlock):=Lib.hid (fun t ht e=>by
     have hl4:u4.length=x.bufs.length:=HS.out.nx.l4
     rw[vr_set (vs:=u4) (k:=j) (by have:=HJX.out;omega)] at e
     have low:∀ r:Nat,r<x.bufs.length→(vr u4 r).ownBlock=some (wp.heap.size+1)→False:=fun r hr e2=>by
      have h7:=HS.out.nx.row4 r hr
      have:=Kd.R_lt h7 _ e2
      omega
     split at e
     ·rcases HAT4.out with h|h|⟨b,h,hb⟩
      ·rw[h] at e;cases e
      ·rw[h] at e;exact low j HJX.out e.symm
      ·rw[h] at e;have:=Option.some.inj e;omega
     ·exact low t ht e.symm)
    have HN8:Hid (∀ t:Nat,t<x.arrs.length→¬ some (wp.heap.size+1)=(vr u8 t).ownBlock):=Lib.hid (fun t ht e=>by
     have h7:=HS.out.nx.row8 t ht
     have:=Kd.R_lt h7 _ e.symm
     omega)
    have hz5:W3.heap.size≤W5.heap.size:=by rw[e5];simp only[szs];exact hb44.size
    try rw[←e5]
    obtain⟨y,hy⟩:∃ y,NoC.popN x g=y:=⟨_,rfl⟩
    rw[hy] at HS5
    have HLY:Hid (Lens n y):=Lib.hid (by rw[←hy];exact HLen.out.popN g)
    have HRY:Hid (∀ t:Nat,(rl y.bufs (t:Int)).length≤9000000∧(rl y.arrs (t:Int)).length≤9000000):=Lib.hid (fun t=>by
     have h1:=popN_rows x g t
     have h2:=HRB.out t
     rw[hy] at h1
     exact⟨by omega,by rw[←hy];exact h2.2⟩)
    have HNY:Hid (specL n n ((allGrants n).take (k+1))=pushG n y g):=Lib.hid (by rw[HNX.out,←hy];rfl)
    have ybl:y.bufs.length=x.bufs.length:=by rw[HLY.out.b,HLen.out.b]
    have yal:y.arrs.length=x.arrs.length:=by rw[HLY.out.a,HLen.out.a]
    obtain⟨u5,hu5⟩:∃ u,u4.set j (.slice A4 D.length d9)=u:=⟨_,rfl⟩
    rw[hu5] at HS5 HNF
    rw[←ybl] at HNF
    rw[←yal] at HN8
    have HYB:=Lib.hid ybl
    clear e5 hy hu5 k1 k2 hb44 ht4 HD4 HAT4 HS3 HG3 HF3 HB4 S1 S2 HC3 s1 s2 y5 yx HPN HD hcut hj ybl yal hDn hRjl hRj0 lpos lposj hjl nbx4 O4 lw3 HV HRJ HJX HRB HNX HLen j0 j1
    obtain⟨gb0,gb1,gb2,gbl⟩:=HG5.out.cells
    have zpw:wp.heap.size+1<W5.heap.size:=blk_lt HF5.out
    have z5:W5.cell? ⟨bx,5,none⟩=some (.slice (some ⟨g4,0,none⟩) n.bufs.length d4):=HS5.out.bt.box.get 5
    have z9:W5.cell? ⟨bx,9,none⟩=some (.slice (some ⟨g8,0,none⟩) n.arrs.length d8):=HS5.out.bt.box.get 9
    have zx:bx<W5.heap.size:=HS5.out.bt.lt
    by_cases h4:g.port=4
    ·have H4:=Lib.hid h4
     have f4:(g.port == 4)=true:=by simp[h4]
     clear h4
     obtain⟨t,ht⟩:∃ t:Nat,g.node.toNat=t:=⟨_,rfl⟩
     have HTN:Hid ((t:Int)=g.node):=Lib.hid (by omega)
     have htl:t<y.arrs.length:=by have:=HLY.out.a;omega
     go_wp2_with fail

     have hrow:=HS5.out.nx.row8 t htl
     try dsimp only at hrow
     obtain⟨At,ct,hv⟩:=Kd.R_slice hrow
     rw[hv] at hrow
     obtain⟨R,hR⟩:∃ R,rl y.arrs (t:Int)=R:=⟨_,rfl⟩
     rw[hR] at hrow hv
     have hRl:R.length≤100000000:=by have:=HRY.out t;rw[←hR];omega
     obtain⟨cl1,cl2⟩:=own_facts8 (x:=y) HS5.out.nx rfl htl hv
     obtain⟨rb,hrb⟩:∃ rb,(Value.slice At R.length ct).ownBlock=rb:=⟨_,rfl⟩
     have nb1:¬ some bx=rb:=fun e=>by obtain⟨inner,hin⟩:=Kd.R_own hrow;exact own_ne hin HS5.out.bt (by decide) (e.trans hrb.symm)
     have nb2:¬ some wp.heap.size=rb:=fun e=>by obtain⟨inner,hin⟩:=Kd.R_own hrow;exact own_ne hin HG5.out (by decide) (e.trans hrb.symm)
     have nb2f:¬ some (wp.heap.size+1)=rb:=fun e=>by
      have h8:=HN8.out t htl
      rw[hv] at h8
      exact h8 (e.trans hrb.symm)
     have hBO:BlkT W5 g8 145:=own_typed HS5.out.nx.arrs g8 rfl
     have nb3:¬ some g8=rb:=fun e=>by
      obtain⟨inner,hin⟩:=Kd.R_own hrow
      obtain⟨cs,hc⟩:=hBO
      exact own_ne hin hc (by decide) (e.trans hrb.symm)
     have nbo:¬ bx=g8:=by
      obtain⟨cs,hc⟩:=hBO
      exact blk_ne HS5.out.bt hc (by decide)
     have Ow0:g8<w0.heap.size:=(HTop.out g8 (.inr (.inr (.inr (.inr rfl))))).2
     have nbg:¬ wp.heap.size=g8:=by omega
     have nbf:¬ wp.heap.size+1=g8:=by omega
     obtain⟨m0,m1,m2,m3,m4,ml⟩:=HF5.out.cells
     have HRow:=Lib.hid hrow
     have HV:=Lib.hid hv
     have HRE:=Lib.hid hR
     have HRB1:=Lib.hid hrb
     have HTL:=Lib.hid htl
     have HBO:=Lib.hid hBO
     have lwz:lo≤W5.heap.size:=Nat.le_trans HS5.out.low HS5.out.size
     have Owz:g8<W5.heap.size:=by have:=HS5.out.size;omega
     have CL1:=Lib.hid cl1
     have CL2:=Lib.hid cl2
     clear hrow hv hR htl hBO hrb
     refine wp_region_tx (CK W5 rb) (fun i=>[.pointer (some ⟨bx,9,none⟩),.slice (some ⟨g8,0,none⟩) n.arrs.length d8,.pointer (some ⟨wp.heap.size,0,none⟩),.int .i64 g.node,.pointer (some ⟨bx,9,none⟩),.slice (some ⟨g8,0,none⟩) n.arrs.length d8,.pointer (some ⟨wp.heap.size,0,none⟩),.int .i64 g.node,.pointer (some ⟨g8,t,none⟩),.slice At R.length ct,.agg #[.int .i64 F0.pk,.int .i64 F0.dst,.int .i64 F0.cls,.bool F0.head,.bool F0.tail],undef,undef,.pointer (some ⟨g8,t,none⟩)].getD i undef) 14 [(0,.quiet),(1,.quiet),(2,.quiet),(3,.quiet),(4,.quiet),(5,.quiet),(6,.quiet),(7,.quiet),(8,.quiet),(9,.quiet),(10,.quiet),(11,.chain),(12,.chain),(13,.quiet)] (by kernel_rfl) (by kernel_rfl) (by kernel_rfl) (by kernel_rfl) (by kernel_rfl) (by kernel_rfl) (by kernel_rfl) (by kernel_rfl) CK.drew (fun W=>W=W5.drew) rfl ?_
     refine wpTx_q (some 62) rfl rfl (by rfl) (fun W hC=>?_) ?_
     ·clear hC
      go_simp
      try rfl
     try simp only[Act.put,nms]
     refine wpTx_q (some 63) rfl rfl (by rfl) (fun W hC=>?_) ?_
     ·have:=hC.cell zx nb1 z9
      clear hC
      go_simp
      try rfl
     try simp only[Act.put,nms]
     refine wpTx_q (some 64) rfl rfl (by rfl) (fun W hC=>?_) ?_
     ·clear hC
      go_simp
      try rfl
     try simp only[Act.put,nms]
     refine wpTx_q (some 65) rfl rfl (by rfl) (fun W hC=>?_) ?_
     ·have:=hC.cell gbl nb2 gb0
      clear hC
      go_simp
      try rfl
     try simp only[Act.put,nms]
     refine wpTx_q (some 66) rfl rfl (by rfl) (fun W hC=>?_) ?_
     ·clear hC
      go_simp
      try rfl
     try simp only[Act.put,nms]
     refine wpTx_q (some 67) rfl rfl (by rfl) (fun W hC=>?_) ?_
     ·have:=hC.cell zx nb1 z9
      clear hC
      go_simp
      try rfl
     try simp only[Act.put,nms]
     refine wpTx_q (some 68) rfl rfl (by rfl) (fun W hC=>?_) ?_
     ·clear hC
      go_simp
      try rfl
     try simp only[Act.put,nms]
     refine wpTx_q (some 69) rfl rfl (by rfl) (fun W hC=>?_) ?_
     ·have:=hC.cell gbl nb2 gb0
      clear hC
      go_simp
      try rfl
     try simp only[Act.put,nms]
     refine wpTx_q (some 70) rfl rfl (by rfl) (fun W hC=>?_) ?_
     ·clear hC
      go_simp
      try rfl
     try simp only[Act.put,nms]
     refine wpTx_q (some 71) rfl rfl (by rfl) (fun W hC=>?_) ?_
     ·have:=hC.cell Owz nb3 CL1.out
      clear hC
      go_simp
      try rfl
     try simp only[Act.put,nms]
     refine wpTx_q (some 72) rfl rfl (by rfl) (fun W hC=>?_) ?_
     ·have:=hC.cell ml nb2f m0
      have:=hC.cell ml nb2f m1
      have:=hC.cell ml nb2f m2
      have:=hC.cell ml nb2f m3
      have:=hC.cell ml nb2f m4
      clear hC
      go_simp
      try rfl
     try simp only[Act.put,nms]
     refine wpTx_c (some 73) rfl rfl (by rfl) () (fun _=>.slice (some ⟨W5.heap.size,0,none⟩) 1 1) (fun _ W=>W=W5.drew.alloc (.cells #[.int .i64 F0.pk,.int .i64 F0.dst,.int .i64 F0.cls,.bool F0.head,.bool F0.tail] 153)) (fun W hF hC=>?_) (fun _=>?_)
     ·subst hF
      refine LoOp.val (v:=.slice (some ⟨W5.heap.size,0,none⟩) 1 1) (w1:=W5.drew.alloc (.cells #[.int .i64 F0.pk,.int .i64 F0.dst,.int .i64 F0.cls,.bool F0.head,.bool F0.tail] 153)) ?_ ⟨(),rfl,hC.alloc _,rfl⟩
      go_simp
      try rfl
     try simp only[Act.put,nms]
     refine wpTx_c (some 74) rfl rfl (by rfl) ((none,0):Option Addr × Nat) (fun y=>.slice y.1 (R.length+1) y.2) (fun y W9=>kF.R 153 W9 lo (fun _=>True) (.slice y.1 (R++[F0]).length y.2) (R++[F0])∧W5.grownBy W9 (Value.slice At R.length ct).ownBlock∧Anew W5 (.slice y.1 (R++[F0]).length y.2) (.slice At R.length ct)) (fun W hF hC=>?_) (fun yv=>?_)
     ·subst hF
      refine LoOp.of_if (ops:=#[]) rfl rfl (by simp) (by rfl) (app_FgS (ops:=#[]) (W:=W5.drew) (B:=lo) (by rfl) (.tmp 71) (.tmp 73) rfl (.slice At R.length ct) R F0 rfl rfl (Kd.R_below HRow.out (bw_drew (bw_refl _))) lwz hRl ?_)
      intro v9 w9 H9 hg9 ha9
      obtain⟨A9,d9,rfl⟩:=Kd.R_slice H9
      have hg9r:=hg9
      rw[HRB1.out] at hg9r
      refine⟨(A9,d9),?_,CK.grown CK.drew hg9r,H9,⟨hg9.os,hg9.tape,hg9.output,hg9.size,hg9.block⟩,ha9⟩
      show Value.slice A9 (R++[F0]).length d9=.slice A9 (R.length+1) d9
      rw[List.length_append]
      rfl
     try simp only[Act.put,nms]
     refine wpTx_q (some 75) rfl rfl (by rfl) (fun W hC=>?_) ?_
     ·clear hC
      go_simp
      try rfl
     try simp only[Act.put,nms]
     refine wpTx_z (fun w9 hF hC=>?_)
     obtain⟨A9,d10⟩:=yv
     obtain⟨H9,hg9,ha9⟩:=hF
     dsimp only at H9 ha9
     have hg9r:=hg9
     have k1:=hC.cell Owz nb3 CL1.out
     have k2:=hC.frozen Owz nb3 CL2.out
     clear hC
     refine⟨_,rfl,by rfl,?_⟩
     go_simp

     all_goals
      have hl9:(R++[F0]).length=R.length+1:=by simp
      obtain⟨W10,e10⟩:∃ z,z=w9.setCell ⟨g8,t,none⟩ (.slice A9 (R.length+1) d10):=⟨_,rfl⟩
      have HS6:Hid (ST w0 lo bx n ⟨⟨b1,b2,b3,some ⟨g4,0,none⟩,some ⟨g5,0,none⟩,some ⟨g6,0,none⟩,some ⟨g7,0,none⟩,some ⟨g8,0,none⟩,d1,d2,d3,d4,d5,d6,d7,d8⟩,u5,v7,(u8.set t (.slice A9 (R++[F0]).length d10)),(.slice (some ⟨bg,og,none⟩) (allGrants n).length cg),(.slice none 0 0),(.slice none 0 0),(.slice none 0 0),allGrants n,[],[],[]⟩ { y with arrs:=y.arrs.set t (R++[F0]) } W10):=Lib.hid (by
       have hh:=(HS5.out).setArr (g:=g8) (k:=t) (u:=.slice A9 (R++[F0]).length d10) (y:=R++[F0]) rfl HTL.out (by rw[show vr u8 t=.slice At R.length ct from HV.out];exact hg9) H9 (by rw[show vr u8 t=.slice At R.length ct from HV.out];exact ha9)
       rw[e10,←hl9]
       exact hh)
      have HG6:Hid (GB W10 wp.heap.size g):=Lib.hid (by rw[e10];exact(HG5.out.grown hg9 HRow.out).far (HBO.out.grown hg9 HRow.out) (by decide) _ _)
      have HF6:Hid (FBx W10 (wp.heap.size+1) F0):=Lib.hid (by rw[e10];exact(HF5.out.grown hg9 (by rw[HRB1.out];exact nb2f)).far (HBO.out.grown hg9 HRow.out) (by decide) _ _)
      have hz10:W5.heap.size≤W10.heap.size:=by rw[e10];simp only[szs];exact hg9.size
      try rw[hl9]
      try rw[←e10]
      clear e10 k1 k2 hg9 hg9r H9 ha9 m0 m1 m2 m3 m4 ml cl1 cl2 gb0 gb1 gb2 gbl z5 zx
      try clear z9
      obtain⟨b0,b1',b2',bl⟩:=HG6.out.cells
      obtain⟨m0,m1,m2,m3,m4,ml⟩:=HF6.out.cells
      have z6:W10.cell? ⟨bx,6,none⟩=some (.slice (some ⟨g5,0,none⟩) n.owners.length d5):=HS6.out.bt.box.get 6
      have z7:W10.cell? ⟨bx,7,none⟩=some (.slice (some ⟨g6,0,none⟩) n.turns.length d6):=HS6.out.bt.box.get 7
      have zx:bx<W10.heap.size:=HS6.out.bt.lt
      obtain⟨at_,hat⟩:∃ at_:Nat,10*g.node+2*g.port+g.input % 2=(at_:Int):=⟨(10*g.node+2*g.port+g.input % 2).toNat,by omega⟩
      obtain⟨tn,htn⟩:∃ tn:Nat,5*g.node+g.port=(tn:Int):=⟨(5*g.node+g.port).toNat,by omega⟩
      have HAT:=Lib.hid hat
      have HTNN:=Lib.hid htn.symm
      have i3:(at_:Int)<(n.owners.length:Int):=by omega
      have i4:(0:Int)≤(at_:Int):=by omega
      have i5:(0:Int)≤(tn:Int):=by omega
      have i6:(tn:Int)<(n.turns.length:Int):=by omega
      have hokl:at_<y.owners.length:=by have:=HLY.out.o;omega
      have htkl:tn<y.turns.length:=by have:=HLY.out.t;omega
      have hpos:0<y.owners.length:=by omega
      have hpos6:0<y.turns.length:=by omega
      have ng5:¬ wp.heap.size=g5:=by have:=(HTop.out g5 (.inr (.inl rfl))).2;omega
      have ng6:¬ wp.heap.size=g6:=by have:=(HTop.out g6 (.inr (.inr (.inl rfl)))).2;omega
      have n5:¬ bx=g5:=by
       obtain⟨cs,hc⟩:=blkI5 HS6.out.nx rfl hpos
       exact blk_ne HS6.out.bt hc (by decide)
      have n65:¬ g6=g5:=own_turn_ne HS6.out.nx rfl rfl hpos hpos6
      obtain⟨o1,o2⟩:=ownI5 HS6.out.nx rfl hokl
      obtain⟨o3,o4⟩:=ownI6 HS6.out.nx rfl htkl
      cases htl:F0.tail
      ·skip
       rw[htl] at m4
       have HV9:Hid (pushG n y g={ y with arrs:=y.arrs.set t (R++[F0]),owners:=y.owners.set at_ (g.input / 2),turns:=y.turns.set tn ((g.input+1) % 10) }):=Lib.hid (push_eq4 H4.out HTN.out HAT.out HTNN.out HF0.out HRE.out (own_f HF0.out htl))
       go_wp2
       go_roundw
       case rel=>
        refine⟨k+1,u5,(u8.set t (.slice A9 (R++[F0]).length d10)),by go_num,by omega,Lib.hid ?_⟩
        have hh:=(HS6.out.setOwner (g:=g5) (k:=at_) rfl hokl (g.input / 2)).setTurn (g:=g6) (k:=tn) rfl htkl ((g.input+1) % 10)
        rw[HNY.out,HV9.out]
        first|exact hh|exact hh.below (bw_drew (bw_refl _))
       case measure=>simp[intOf];omega
      ·skip
       rw[htl] at m4
       have HV9:Hid (pushG n y g={ y with arrs:=y.arrs.set t (R++[F0]),owners:=y.owners.set at_ (-1),turns:=y.turns.set tn ((g.input+1) % 10) }):=Lib.hid (push_eq4 H4.out HTN.out HAT.out HTNN.out HF0.out HRE.out (own_t HF0.out htl))
       go_wp2
       go_roundw
       case rel=>
        refine⟨k+1,u5,(u8.set t (.slice A9 (R++[F0]).length d10)),by go_num,by omega,Lib.hid ?_⟩
        have hh:=(HS6.out.setOwner (g:=g5) (k:=at_) rfl hokl (-1)).setTurn (g:=g6) (k:=tn) rfl htkl ((g.input+1) % 10)
        rw[HNY.out,HV9.out]
        first|exact hh|exact hh.below (bw_drew (bw_refl _))
       case measure=>simp[intOf];omega
    ·have H4:=Lib.hid h4
     have f4:(g.port == 4)=false:=by simp[h4]
     clear h4
     obtain⟨t,ht⟩:∃ t:Nat,gTo n g=(t:Int):=⟨(gTo n g).toNat,by have:=HTO.out H4.out;omega⟩
     have HTN:Hid ((t:Int)=gTo n g):=Lib.hid ht.symm
     have htl:t<y.bufs.length:=by have:=HLY.out.b;have:=HTO.out H4.out;omega
     have tb:(t:Int)<(n.bufs.length:Int):=by have:=HTO.out H4.out;omega
     have t0:(0:Int)≤(t:Int):=by omega
     unfold gTo behindI at ht
     obtain⟨nx,hnx⟩:∃ z,nextNode n.mesh.g g.node g.port=z:=⟨_,rfl⟩
     obtain⟨op,hop⟩:∃ z,opposite g.port=z:=⟨_,rfl⟩
     rw[hnx,hop] at ht
     have HNN:=Lib.hid hnx
     have HOP:=Lib.hid hop
     have hrng3:=HTR.out H4.out
     rw[hnx,hop] at hrng3
     obtain⟨r1,r2,r3,r4⟩:=hrng3
     have q0:W5.cell? ⟨w.heap.size,0,none⟩=some (.int .i64 n.mesh.g.w):=(cell_low HS5.out.blw (by omega) 0).trans (HX0.out.get 0)
     have q1:W5.cell? ⟨w.heap.size,1,none⟩=some (.int .i64 n.mesh.g.h):=(cell_low HS5.out.blw (by omega) 1).trans (HX0.out.get 1)
     have q2:w.heap.size<W5.heap.size:=by omega
     clear hnx hop
     go_wp2_with fail
     refine wp_region_far (W5) (by kernel_rfl) (by kernel_rfl) bel ?_
     have hqc:=far_cell (W5)
     have hqf:=far_frozen (W5)
     repeat (first|go_big_quiet_step (first|(go_at_call 177;exact far_call (Calls.says (spec_NextNode n.mesh.g g.node g.port _) (congrArg (Value.int .i64) HNN.out)))|(go_at_call 178;exact far_call (Calls.says (spec_Opposite g.port _) (congrArg (Value.int .i64) HOP.out))))|quiet_step (first|(go_at_call 177;exact far_call (Calls.says (spec_NextNode n.mesh.g g.node g.port _) (congrArg (Value.int .i64) HNN.out)))|(go_at_call 178;exact far_call (Calls.says (spec_Opposite g.port _) (congrArg (Value.int .i64) HOP.out)))))
     refine wpQuiet_nil ?_
     intro wq hbq
     clear hqc hqf
     obtain⟨hcq,hfq,hzq⟩:=bcell hbq
     try simp only[szs] at hzq
     replace HS5:=Lib.hid (HS5.out.below hbq)
     replace HG5:=Lib.hid (HG5.out.below hbq)
     replace HF5:=Lib.hid (HF5.out.below hbq)
     replace hz5:=Nat.le_trans hz5 (bw_size hbq)
     replace zpw:=Nat.lt_of_lt_of_le zpw (bw_size hbq)
     clear hcq hfq hzq gb0 gb1 gb2 gbl z5 z9 zx q0 q1 q2 hbq
     obtain⟨W5,eW⟩:∃ z,z=wq:=⟨_,rfl⟩
     subst eW
     obtain⟨gb0,gb1,gb2,gbl⟩:=HG5.out.cells
     have z5:W5.cell? ⟨bx,5,none⟩=some (.slice (some ⟨g4,0,none⟩) n.bufs.length d4):=HS5.out.bt.box.get 5
     have zx:bx<W5.heap.size:=HS5.out.bt.lt
     go_wp2_with fail

     have hrow:=HS5.out.nx.row4 t htl
     try dsimp only at hrow
     obtain⟨At,ct,hv⟩:=Kd.R_slice hrow
     rw[hv] at hrow
     obtain⟨R,hR⟩:∃ R,rl y.bufs (t:Int)=R:=⟨_,rfl⟩
     rw[hR] at hrow hv
     have hRl:R.length≤100000000:=by have:=HRY.out t;rw[←hR];omega
     obtain⟨cl1,cl2⟩:=own_facts (x:=y) HS5.out.nx rfl htl hv
     obtain⟨rb,hrb⟩:∃ rb,(Value.slice At R.length ct).ownBlock=rb:=⟨_,rfl⟩
     have nb1:¬ some bx=rb:=fun e=>by obtain⟨inner,hin⟩:=Kd.R_own hrow;exact own_ne hin HS5.out.bt (by decide) (e.trans hrb.symm)
     have nb2:¬ some wp.heap.size=rb:=fun e=>by obtain⟨inner,hin⟩:=Kd.R_own hrow;exact own_ne hin HG5.out (by decide) (e.trans hrb.symm)
     have nb2f:¬ some (wp.heap.size+1)=rb:=fun e=>by
      have h8:=HNF.out t htl
      rw[hv] at h8
      exact h8 (e.trans hrb.symm)
     have hBO:BlkT W5 g4 145:=own_typed HS5.out.nx.bufs g4 rfl
     have nb3:¬ some g4=rb:=fun e=>by
      obtain⟨inner,hin⟩:=Kd.R_own hrow
      obtain⟨cs,hc⟩:=hBO
      exact own_ne hin hc (by decide) (e.trans hrb.symm)
     have nbo:¬ bx=g4:=by
      obtain⟨cs,hc⟩:=hBO
      exact blk_ne HS5.out.bt hc (by decide)
     have Ow0:g4<w0.heap.size:=(HTop.out g4 (.inl rfl)).2
     have nbg:¬ wp.heap.size=g4:=by omega
     have nbf:¬ wp.heap.size+1=g4:=by omega
     obtain⟨m0,m1,m2,m3,m4,ml⟩:=HF5.out.cells
     have HRow:=Lib.hid hrow
     have HV:=Lib.hid hv
     have HRE:=Lib.hid hR
     have HRB1:=Lib.hid hrb
     have HTL:=Lib.hid htl
     have HBO:=Lib.hid hBO
     have lwz:lo≤W5.heap.size:=Nat.le_trans HS5.out.low HS5.out.size
     have Owz:g4<W5.heap.size:=by have:=HS5.out.size;omega
     have CL1:=Lib.hid cl1
     have CL2:=Lib.hid cl2
     clear hrow hv hR htl hBO hrb
     refine wp_region_tx (CK W5 rb) (fun i=>[.pointer (some ⟨bx,5,none⟩),.slice (some ⟨g4,0,none⟩) n.bufs.length d4,.int .i64 (t:Int),.pointer (some ⟨bx,5,none⟩),.slice (some ⟨g4,0,none⟩) n.bufs.length d4,.int .i64 (t:Int),.pointer (some ⟨g4,t,none⟩),.slice At R.length ct,.agg #[.int .i64 F0.pk,.int .i64 F0.dst,.int .i64 F0.cls,.bool F0.head,.bool F0.tail],undef,undef,.pointer (some ⟨g4,t,none⟩)].getD i undef) 12 [(0,.quiet),(1,.quiet),(2,.quiet),(3,.quiet),(4,.quiet),(5,.quiet),(6,.quiet),(7,.quiet),(8,.quiet),(9,.chain),(10,.chain),(11,.quiet)] (by kernel_rfl) (by kernel_rfl) (by kernel_rfl) (by kernel_rfl) (by kernel_rfl) (by kernel_rfl) (by kernel_rfl) (by kernel_rfl) CK.drew (fun W=>W=W5.drew) rfl ?_
     refine wpTx_q (some 92) rfl rfl (by rfl) (fun W hC=>?_) ?_
     ·clear hC
      go_simp
      try rfl
     try simp only[Act.put,nms]
     refine wpTx_q (some 93) rfl rfl (by rfl) (fun W hC=>?_) ?_
     ·have:=hC.cell zx nb1 z5
      clear hC
      go_simp
      try rfl
     try simp only[Act.put,nms]
     refine wpTx_q (some 94) rfl rfl (by rfl) (fun W hC=>?_) ?_
     ·clear hC
      go_simp
      try rfl
     try simp only[Act.put,nms]
     refine wpTx_q (some 95) rfl rfl (by rfl) (fun W hC=>?_) ?_
     ·clear hC
      go_simp
      try rfl
     try simp only[Act.put,nms]
     refine wpTx_q (some 96) rfl rfl (by rfl) (fun W hC=>?_) ?_
     ·have:=hC.cell zx nb1 z5
      clear hC
      go_simp
      try rfl
     try simp only[Act.put,nms]
     refine wpTx_q (some 97) rfl rfl (by rfl) (fun W hC=>?_) ?_
     ·clear hC
      go_simp
      try rfl
     try simp only[Act.put,nms]
     refine wpTx_q (some 98) rfl rfl (by rfl) (fun W hC=>?_) ?_
     ·clear hC
      go_simp
      try rfl
     try simp only[Act.put,nms]
     refine wpTx_q (some 99) rfl rfl (by rfl) (fun W hC=>?_) ?_
     ·have:=hC.cell Owz nb3 CL1.out
      clear hC
      go_simp
      try rfl
     try simp only[Act.put,nms]
     refine wpTx_q (some 100) rfl rfl (by rfl) (fun W hC=>?_) ?_
     ·have:=hC.cell ml nb2f m0
      have:=hC.cell ml nb2f m1
      have:=hC.cell ml nb2f m2
      have:=hC.cell ml nb2f m3
      have:=hC.cell ml nb2f m4
      clear hC
      go_simp
      try rfl
     try simp only[Act.put,nms]
     refine wpTx_c (some 101) rfl rfl (by rfl) () (fun _=>.slice (some ⟨W5.heap.size,0,none⟩) 1 1) (fun _ W=>W=W5.drew.alloc (.cells #[.int .i64 F0.pk,.int .i64 F0.dst,.int .i64 F0.cls,.bool F0.head,.bool F0.tail] 153)) (fun W hF hC=>?_) (fun _=>?_)
     ·subst hF
      refine LoOp.val (v:=.slice (some ⟨W5.heap.size,0,none⟩) 1 1) (w1:=W5.drew.alloc (.cells #[.int .i64 F0.pk,.int .i64 F0.dst,.int .i64 F0.cls,.bool F0.head,.bool F0.tail] 153)) ?_ ⟨(),rfl,hC.alloc _,rfl⟩
      go_simp
      try rfl
     try simp only[Act.put,nms]
     refine wpTx_c (some 102) rfl rfl (by rfl) ((none,0):Option Addr × Nat) (fun y=>.slice y.1 (R.length+1) y.2) (fun y W9=>kF.R 153 W9 lo (fun _=>True) (.slice y.1 (R++[F0]).length y.2) (R++[F0])∧W5.grownBy W9 (Value.slice At R.length ct).ownBlock∧Anew W5 (.slice y.1 (R++[F0]).length y.2) (.slice At R.length ct)) (fun W hF hC=>?_) (fun yv=>?_)
     ·subst hF
      refine LoOp.of_if (ops:=#[]) rfl rfl (by simp) (by rfl) (app_FgS (ops:=#[]) (W:=W5.drew) (B:=lo) (by rfl) (.tmp 99) (.tmp 101) rfl (.slice At R.length ct) R F0 rfl rfl (Kd.R_below HRow.out (bw_drew (bw_refl _))) lwz hRl ?_)
      intro v9 w9 H9 hg9 ha9
      obtain⟨A9,d9,rfl⟩:=Kd.R_slice H9
      have hg9r:=hg9
      rw[HRB1.out] at hg9r
      refine⟨(A9,d9),?_,CK.grown CK.drew hg9r,H9,⟨hg9.os,hg9.tape,hg9.output,hg9.size,hg9.block⟩,ha9⟩
      show Value.slice A9 (R++[F0]).length d9=.slice A9 (R.length+1) d9
      rw[List.length_append]
      rfl
     try simp only[Act.put,nms]
     refine wpTx_q (some 103) rfl rfl (by rfl) (fun W hC=>?_) ?_
     ·clear hC
      go_simp
      try rfl
     try simp only[Act.put,nms]
     refine wpTx_z (fun w9 hF hC=>?_)
     obtain⟨A9,d10⟩:=yv
     obtain⟨H9,hg9,ha9⟩:=hF
     dsimp only at H9 ha9
     have hg9r:=hg9
     have k1:=hC.cell Owz nb3 CL1.out
     have k2:=hC.frozen Owz nb3 CL2.out
     clear hC
     refine⟨_,rfl,by rfl,?_⟩
     go_simp

     all_goals
      have hl9:(R++[F0]).length=R.length+1:=by simp
      obtain⟨W10,e10⟩:∃ z,z=w9.setCell ⟨g4,t,none⟩ (.slice A9 (R.length+1) d10):=⟨_,rfl⟩
      have HS6:Hid (ST w0 lo bx n ⟨⟨b1,b2,b3,some ⟨g4,0,none⟩,some ⟨g5,0,none⟩,some ⟨g6,0,none⟩,some ⟨g7,0,none⟩,some ⟨g8,0,none⟩,d1,d2,d3,d4,d5,d6,d7,d8⟩,(u5.set t (.slice A9 (R++[F0]).length d10)),v7,u8,(.slice (some ⟨bg,og,none⟩) (allGrants n).length cg),(.slice none 0 0),(.slice none 0 0),(.slice none 0 0),allGrants n,[],[],[]⟩ { y with bufs:=y.bufs.set t (R++[F0]) } W10):=Lib.hid (by
       have hh:=(HS5.out).setBuf (g:=g4) (k:=t) (u:=.slice A9 (R++[F0]).length d10) (y:=R++[F0]) rfl HTL.out (by rw[show vr u5 t=.slice At R.length ct from HV.out];exact hg9) H9 (by rw[show vr u5 t=.slice At R.length ct from HV.out];exact ha9)
       rw[e10,←hl9]
       exact hh)
      have HG6:Hid (GB W10 wp.heap.size g):=Lib.hid (by rw[e10];exact(HG5.out.grown hg9 HRow.out).far (HBO.out.grown hg9 HRow.out) (by decide) _ _)
      have HF6:Hid (FBx W10 (wp.heap.size+1) F0):=Lib.hid (by rw[e10];exact(HF5.out.grown hg9 (by rw[HRB1.out];exact nb2f)).far (HBO.out.grown hg9 HRow.out) (by decide) _ _)
      have hz10:W5.heap.size≤W10.heap.size:=by rw[e10];simp only[szs];exact hg9.size
      try rw[hl9]
      try rw[←e10]
      clear e10 k1 k2 hg9 hg9r H9 ha9 m0 m1 m2 m3 m4 ml cl1 cl2 gb0 gb1 gb2 gbl z5 zx
      try clear z9
      obtain⟨b0,b1',b2',bl⟩:=HG6.out.cells
      obtain⟨m0,m1,m2,m3,m4,ml⟩:=HF6.out.cells
      have z6:W10.cell? ⟨bx,6,none⟩=some (.slice (some ⟨g5,0,none⟩) n.owners.length d5):=HS6.out.bt.box.get 6
      have z7:W10.cell? ⟨bx,7,none⟩=some (.slice (some ⟨g6,0,none⟩) n.turns.length d6):=HS6.out.bt.box.get 7
      have zx:bx<W10.heap.size:=HS6.out.bt.lt
      obtain⟨at_,hat⟩:∃ at_:Nat,10*g.node+2*g.port+g.input % 2=(at_:Int):=⟨(10*g.node+2*g.port+g.input % 2).toNat,by omega⟩
      obtain⟨tn,htn⟩:∃ tn:Nat,5*g.node+g.port=(tn:Int):=⟨(5*g.node+g.port).toNat,by omega⟩
      have HAT:=Lib.hid hat
      have HTNN:=Lib.hid htn.symm
      have i3:(at_:Int)<(n.owners.length:Int):=by omega
      have i4:(0:Int)≤(at_:Int):=by omega
      have i5:(0:Int)≤(tn:Int):=by omega
      have i6:(tn:Int)<(n.turns.length:Int):=by omega
      have hokl:at_<y.owners.length:=by have:=HLY.out.o;omega
      have htkl:tn<y.turns.length:=by have:=HLY.out.t;omega
      have hpos:0<y.owners.length:=by omega
      have hpos6:0<y.turns.length:=by omega
      have ng5:¬ wp.heap.size=g5:=by have:=(HTop.out g5 (.inr (.inl rfl))).2;omega
      have ng6:¬ wp.heap.size=g6:=by have:=(HTop.out g6 (.inr (.inr (.inl rfl)))).2;omega
      have n5:¬ bx=g5:=by
       obtain⟨cs,hc⟩:=blkI5 HS6.out.nx rfl hpos
       exact blk_ne HS6.out.bt hc (by decide)
      have n65:¬ g6=g5:=own_turn_ne HS6.out.nx rfl rfl hpos hpos6
      obtain⟨o1,o2⟩:=ownI5 HS6.out.nx rfl hokl
      obtain⟨o3,o4⟩:=ownI6 HS6.out.nx rfl htkl
      cases htl:F0.tail
      ·skip
       rw[htl] at m4
       have HV9:Hid (pushG n y g={ y with bufs:=y.bufs.set t (R++[F0]),owners:=y.owners.set at_ (g.input / 2),turns:=y.turns.set tn ((g.input+1) % 10) }):=Lib.hid (push_eq H4.out HTN.out HAT.out HTNN.out HF0.out HRE.out (own_f HF0.out htl))
       go_wp2
       go_roundw
       case rel=>
        refine⟨k+1,(u5.set t (.slice A9 (R++[F0]).length d10)),u8,by go_num,by omega,Lib.hid ?_⟩
        have hh:=(HS6.out.setOwner (g:=g5) (k:=at_) rfl hokl (g.input / 2)).setTurn (g:=g6) (k:=tn) rfl htkl ((g.input+1) % 10)
        rw[HNY.out,HV9.out]
        first|exact hh|exact hh.below (bw_drew (bw_refl _))
       case measure=>simp[intOf];omega
      ·skip
       rw[htl] at m4
       have HV9:Hid (pushG n y g={ y with bufs:=y.bufs.set t (R++[F0]),owners:=y.owners.set at_ (-1),turns:=y.turns.set tn ((g.input+1) % 10) }):=Lib.hid (push_eq H4.out HTN.out HAT.out HTNN.out HF0.out HRE.out (own_t HF0.out htl))
       go_wp2
       go_roundw
       case rel=>
        refine⟨k+1,(u5.set t (.slice A9 (R++[F0]).length d10)),u8,by go_num,by omega,Lib.hid ?_⟩
        have hh:=(HS6.out.setOwner (g:=g5) (k:=at_) rfl hokl (-1)).setTurn (g:=g6) (k:=tn) rfl htkl ((g.input+1) % 10)
        rw[HNY.out,HV9.out]
        first|exact hh|exact hh.below (bw_drew (bw_refl _))
       case measure=>simp[intOf];omega
  ·skip
   obtain rfl:k=(allGrants n).length:=by omega
   have hx0:specL n n ((allGrants n).take (allGrants n).length)=enterL n (afterPush n) ((enteringN n).take 0):=by rw[List.take_length,specStep OK.out];rfl
   rw[hx0] at HS
   clear hx0 hlt
   have HBp:Below w.heap.size w wp:=bw_trans HHB.out HS.out.blw (by omega)
   have XB:Box wp w.heap.size #[.int .i64 n.mesh.g.w,.int .i64 n.mesh.g.h,.slice a1 n.mesh.br.length c1,.slice a2 n.pa.length c2,.slice a3 n.pb.length c3,.slice a4 n.bufs.length c4,.slice a5 n.owners.length c5,.slice a6 n.turns.length c6,.slice a7 n.srcs.length c7,.slice a8 n.arrs.length c8,.int .i64 n.time]:=box_low HX0.out HS.out.blw (by omega)
   have xbl:=XB.lt
   have box11:Box wp w.heap.size #[.int .i64 n.mesh.g.w,.int .i64 n.mesh.g.h,.slice a1 n.mesh.br.length c1,.slice a2 n.pa.length c2,.slice a3 n.pb.length c3,.slice a4 n.bufs.length c4,.slice a5 n.owners.length c5,.slice a6 n.turns.length c6,.slice a7 n.srcs.length c7,.slice a8 n.arrs.length c8,.int .i64 n.time]:=XB
   obtain⟨xb0,xb1,xb2,xb3,xb4,xb5,xb6,xb7,xb8,xb9,xb10⟩:=all11 box11
   clear box11
   clear XB
   go_wp2_with (go_at_call 109;refine(spec_l19Entering n _ _ (HR.out.below bel) OK.out).mono ?_;rintro e w3 ⟨hg1,hb3⟩;obtain⟨ve,rfl,HE0⟩:=hg1;obtain⟨Ae,ce,rfl⟩:=Kd.R_slice HE0;have HE1:=Lib.hid HE0;clear HE0)
   have HSE:Hid (ST w0 lo bx n ⟨⟨b1,b2,b3,some ⟨g4,0,none⟩,some ⟨g5,0,none⟩,some ⟨g6,0,none⟩,some ⟨g7,0,none⟩,some ⟨g8,0,none⟩,d1,d2,d3,d4,d5,d6,d7,d8⟩,u4,v7,u8,(.slice Ag (allGrants n).length cg),(.slice none 0 0),(.slice Ae (enteringN n).length ce),(.slice none 0 0),allGrants n,[],enteringN n,[]⟩ (enterL n (afterPush n) ((enteringN n).take 0)) w3):=Lib.hid (ST.withE (HS.out.below hb3) (Kd.R_lower HE1.out zz))
   clear xb0 xb1 xb2 xb3 xb4 xb5 xb6 xb7 xb8 xb9 xb10 xbl HE1 HS hb3 HBp
   go_loopw [13] (fun i wr=>∃ (k:Nat) (u4 u7:List Value),i=.int .i64 k∧k≤(enteringN n).length∧Hid (ST w0 lo bx n ⟨⟨b1,b2,b3,some ⟨g4,0,none⟩,some ⟨g5,0,none⟩,some ⟨g6,0,none⟩,some ⟨g7,0,none⟩,some ⟨g8,0,none⟩,d1,d2,d3,d4,d5,d6,d7,d8⟩,u4,u7,u8,(.slice Ag (allGrants n).length cg),(.slice none 0 0),(.slice Ae (enteringN n).length ce),(.slice none 0 0),allGrants n,[],enteringN n,[]⟩ (enterL n (afterPush n) ((enteringN n).take k)) wr)) (fun i _=>(enteringN n).length - (intOf i).toNat)
   case atStart=>exact⟨0,u4,v7,rfl,Nat.zero_le _,Lib.hid HSE.out⟩
   case round=>
    clear HSE zz zl xl
    obtain⟨k,u4,u7,rfl,hk,HS⟩:=hrel
    obtain⟨wp,ewp⟩:∃ z,z=wr:=⟨_,rfl⟩
    subst ewp
    have zz:=HS.out.size
    have zl:=HS.out.low
    have xl:=HS.out.bt.lt
    by_cases hlt:k<(enteringN n).length
    ·skip
     have k0:(0:Int)≤(k:Int):=by omega
     have i0:(k:Int)<((enteringN n).length:Int):=by omega
     obtain⟨a,ea,al,hen⟩:=enter_at hlt
     have hnew:=enter_new hlt
     have hnx:=enterL_next n (afterPush n) k hlt
     have hsb:=src_buf OK.out a al
     rw[ea] at hnew hnx
     obtain⟨x,hx⟩:∃ x,enterL n (afterPush n) ((enteringN n).take k)=x:=⟨_,rfl⟩
     have hsr:rl x.srcs (a:Int)=rl n.srcs (a:Int):=by
      rw[←hx,enterL_srcs (by omega) _ _ hnew]
      unfold afterPush
      rw[pushL_srcs]
      rfl
     have hlen:Lens n x:=by rw[←hx];exact Lens.enter _ _ ((Lens.pop n).pushL (allGrants n) (m:=n))
     have HRB:Hid (∀ t:Nat,(rl x.bufs (t:Int)).length≤90000000):=Lib.hid (fun t=>by
      have h1:=enterL_rows n t ((enteringN n).take k) (afterPush n)
      rw[hx,List.length_take] at h1
      have h2:=(pushL_rows n t (allGrants n) (afterPop n)).1
      have h3:(rl (afterPop n).bufs (t:Int)).length=(rl (popL n.bufs (allGrants n)) (t:Int)).length:=rfl
      have h4:(rl (afterPush n).bufs (t:Int)).length=(rl (pushL n (afterPop n) (allGrants n)).bufs (t:Int)).length:=rfl
      have h5:=pop_rows t (allGrants n) n.bufs
      have h6:=rl_bound NBQ.out.h9 t
      omega)
     rw[hx] at HS hnx
     simp only[enters,Bool.and_eq_true,decide_eq_true_eq] at hen
     obtain⟨_,a15,_,hcl⟩:=hsb
     obtain⟨e0,e1,e2⟩:=hcl hen.1
     have hpos:=hen.1
     obtain⟨F0,hF0⟩:∃ F0,rf (rl n.srcs (a:Int)) 0=F0:=⟨_,rfl⟩
     rw[hF0] at e0 e1 e2
     have HF0:=Lib.hid hF0
     obtain⟨t,ht⟩:∃ t:Nat,10*(a:Int)+8+F0.cls=(t:Int):=⟨(10*(a:Int)+8+F0.cls).toNat,by omega⟩
     have tb:(t:Int)<(n.bufs.length:Int):=by omega
     have t0:(0:Int)≤(t:Int):=by omega
     have htl0:t<n.bufs.length:=by omega
     have ab:(a:Int)<(n.srcs.length:Int):=by omega
     have an0:(0:Int)≤(a:Int):=by omega
     -- the entering row and the source
     obtain⟨be,oe,eAe,hbe,hce⟩:=rdI_at (Kd.R_rowX HS.out.e).2.2 k hlt
     try dsimp only at eAe
     have he0:=hce k hlt
     rw[ea] at he0
     subst eAe
     have HBp:Below w.heap.size w wp:=bw_trans HHB.out HS.out.blw (by omega)
     have hRs:=(HR.out.below HBp).srcs
     obtain⟨bi,oi,ea7,hbi,Ai,ci,r0,hle,hCi⟩:=rdB_at hRs a al
     try dsimp only at ea7
     obtain⟨ri,roi,eAi,hri,f0,f1,f2,f3,f4⟩:=rdFl_0 hCi hpos
     rw[hF0] at f0 f1 f2 f3 f4
     have x8:wp.cell? ⟨w.heap.size,8,none⟩=some (.slice a7 n.srcs.length c7):=(cell_low HS.out.blw (by omega) 8).trans (HX0.out.get 8)
     have xi:w.heap.size<wp.heap.size:=by omega
     subst ea7 eAi
     have hsl:a<x.srcs.length:=by have:=hlen.s;omega
     have hrow:=HS.out.nx.row7 a hsl
     try dsimp only at hrow
     rw[hsr] at hrow
     obtain⟨As,cs,hv7⟩:=Kd.R_slice hrow
     rw[hv7] at hrow
     obtain⟨_,hlc,hCs⟩:=Kd.R_rowX hrow
     have lp:(0:Int)<((rl n.srcs (a:Int)).length:Int):=by omega
     obtain⟨D,hD⟩:∃ D,(rl n.srcs (a:Int)).drop 1=D:=⟨_,rfl⟩
     have hDl:D.length=(rl n.srcs (a:Int)).length - 1:=by rw[←hD,List.length_drop]
     have hDn:D.length≤10000000:=by have:=NBQ.out.h10 _ (rl_mem al);omega
     obtain⟨A2,hA2⟩:∃ A2,(if cs=1 then As else As.map (·.add 5))=A2:=⟨_,rfl⟩
     have hcut:∀ W:World,(Instr.slice 145 (.slice As (rl n.srcs (a:Int)).length cs) (some (.int .i64 1)) none none).run Tryz.prog W=.ok (.slice A2 D.length (cs - 1)) W:=fun W=>by rw[cut_fromF As _ cs (by omega) W,hA2,hDl]
     have HD:Hid (∀ W,kF.C W As (rl n.srcs (a:Int)).length (rl n.srcs (a:Int))→kF.C W A2 D.length D):=Lib.hid (fun W h=>by
      have:=Kd.C_drop h (m:=1) (by omega) hlc
      rw[hD,show 1*kF.sz=5 from rfl,hA2] at this
      exact this)
     have HEB:Hid (enterB n x (a:Int)={ x with bufs:=x.bufs.set t (rl x.bufs (t:Int)++[F0]),srcs:=x.srcs.set a D }):=Lib.hid (by
      unfold enterB eTo
      rw[hF0,ht,hsr,hD]
      rfl)
     have HNX:=Lib.hid hnx
     have HLen:=Lib.hid hlen
     have HV7:=Lib.hid hv7
     have HSR:=Lib.hid hsr
     have HSL:=Lib.hid hsl
     clear hen hnew hnx hcl hce hrow hlc hCs hD hDl hA2 hv7 hsr hlen hF0 hx hsl hCi hle hRs
     obtain⟨W3,hW3⟩:∃ W3,W3=wp.alloc (.cells #[.int .i64 F0.pk,.int .i64 F0.dst,.int .i64 F0.cls,.bool F0.head,.bool F0.tail] 153):=⟨_,rfl⟩
     have HFB:Hid (W3.heap[wp.heap.size]?=some (.cells #[.int .i64 F0.pk,.int .i64 F0.dst,.int .i64 F0.cls,.bool F0.head,.bool F0.tail] 153 (0,0))):=Lib.hid (by subst hW3;exact blk_new wp _)
     have hb3:Below wp.heap.size wp W3:=by subst hW3;exact bw_alloc _ (bw_refl wp)
     have HS3:=Lib.hid (HS.out.below hb3)
     have hz3:=bw_size hb3
     go_wp2_with fail
     rw[←hW3]
     clear hW3 he0 f0 f1 f2 f3 f4 r0 x8 HBp
     have htl:t<x.bufs.length:=by have:=HLen.out.b;omega
     have hrow:=HS3.out.nx.row4 t htl
     try dsimp only at hrow
     obtain⟨At,ct,hv⟩:=Kd.R_slice hrow
     rw[hv] at hrow
     obtain⟨R,hR⟩:∃ R,rl x.bufs (t:Int)=R:=⟨_,rfl⟩
     rw[hR] at hrow hv
     have hRl:R.length≤100000000:=by have:=HRB.out t;rw[←hR];omega
     obtain⟨cl1,cl2⟩:=own_facts (x:=x) HS3.out.nx rfl htl hv
     obtain⟨rb,hrb⟩:∃ rb,(Value.slice At R.length ct).ownBlock=rb:=⟨_,rfl⟩
     have nb1:¬ some bx=rb:=fun e=>by obtain⟨inner,hin⟩:=Kd.R_own hrow;exact own_ne hin HS3.out.bt (by decide) (e.trans hrb.symm)
     have nb2:¬ some wp.heap.size=rb:=fun e=>by
      have h7:=HS.out.nx.row4 t htl
      try dsimp only at h7
      rw[hv] at h7
      have:=Kd.R_lt h7 wp.heap.size (by rw[hrb];exact e.symm)
      omega
     have hBO:BlkT W3 g4 145:=own_typed HS3.out.nx.bufs g4 rfl
     have nb3:¬ some g4=rb:=fun e=>by
      obtain⟨inner,hin⟩:=Kd.R_own hrow
      obtain⟨cs,hc⟩:=hBO
      exact own_ne hin hc (by decide) (e.trans hrb.symm)
     have nf4:¬ wp.heap.size=g4:=by have:=(HTop.out g4 (.inl rfl)).2;omega
     have nf7:¬ wp.heap.size=g7:=by have:=(HTop.out g7 (.inr (.inr (.inr (.inl rfl))))).2;omega
     have m0:W3.cell? ⟨wp.heap.size,0,none⟩=some (.int .i64 F0.pk):=blk_cell HFB.out 0
     have m1:W3.cell? ⟨wp.heap.size,1,none⟩=some (.int .i64 F0.dst):=blk_cell HFB.out 1
     have m2:W3.cell? ⟨wp.heap.size,2,none⟩=some (.int .i64 F0.cls):=blk_cell HFB.out 2
     have m3:W3.cell? ⟨wp.heap.size,3,none⟩=some (.bool F0.head):=blk_cell HFB.out 3
     have m4:W3.cell? ⟨wp.heap.size,4,none⟩=some (.bool F0.tail):=blk_cell HFB.out 4
     have fl3:wp.heap.size<W3.heap.size:=blk_lt HFB.out
     have y5:W3.cell? ⟨bx,5,none⟩=some (.slice (some ⟨g4,0,none⟩) n.bufs.length d4):=HS3.out.bt.box.get 5
     have yx:bx<W3.heap.size:=HS3.out.bt.lt
     have HRow:=Lib.hid hrow
     have HV:=Lib.hid hv
     have HRE:=Lib.hid hR
     have HRB1:=Lib.hid hrb
     have HTL:=Lib.hid htl
     have lwz:lo≤W3.heap.size:=Nat.le_trans HS3.out.low HS3.out.size
     have Owz:g4<W3.heap.size:=by have:=(HTop.out g4 (.inl rfl)).2;omega
     have nbx4:¬ bx=g4:=by
      obtain⟨cs,hc⟩:=hBO
      exact blk_ne HS3.out.bt hc (by decide)
     have nbx7:¬ bx=g7:=by
      obtain⟨cs,hc⟩:=own_typed HS3.out.nx.srcs g7 rfl
      exact blk_ne HS3.out.bt hc (by decide)
     have CL1:=Lib.hid cl1
     have CL2:=Lib.hid cl2
     clear hrow hv hR htl hBO hrb ht
     refine wp_region_tx (CK W3 rb) (fun i=>[.pointer (some ⟨bx,5,none⟩),.slice (some ⟨g4,0,none⟩) n.bufs.length d4,.int .i64 (t:Int),.pointer (some ⟨bx,5,none⟩),.slice (some ⟨g4,0,none⟩) n.bufs.length d4,.int .i64 (t:Int),.pointer (some ⟨g4,t,none⟩),.slice At R.length ct,.agg #[.int .i64 F0.pk,.int .i64 F0.dst,.int .i64 F0.cls,.bool F0.head,.bool F0.tail],undef,undef,.pointer (some ⟨g4,t,none⟩)].getD i undef) 12 [(0,.quiet),(1,.quiet),(2,.quiet),(3,.quiet),(4,.quiet),(5,.quiet),(6,.quiet),(7,.quiet),(8,.quiet),(9,.chain),(10,.chain),(11,.quiet)] (by kernel_rfl) (by kernel_rfl) (by kernel_rfl) (by kernel_rfl) (by kernel_rfl) (by kernel_rfl) (by kernel_rfl) (by kernel_rfl) CK.drew (fun W=>W=W3.drew) rfl ?_
     refine wpTx_q (some 160) rfl rfl (by rfl) (fun W hC=>?_) ?_
     ·clear hC
      go_simp
      try rfl
     try simp only[Act.put,nms]
     refine wpTx_q (some 161) rfl rfl (by rfl) (fun W hC=>?_) ?_
     ·have:=hC.cell yx nb1 y5
      clear hC
      go_simp
      try rfl
     try simp only[Act.put,nms]
     refine wpTx_q (some 162) rfl rfl (by rfl) (fun W hC=>?_) ?_
     ·clear hC
      go_simp
      try rfl
     try simp only[Act.put,nms]
     refine wpTx_q (some 163) rfl rfl (by rfl) (fun W hC=>?_) ?_
     ·clear hC
      go_simp
      try rfl
     try simp only[Act.put,nms]
     refine wpTx_q (some 164) rfl rfl (by rfl) (fun W hC=>?_) ?_
     ·have:=hC.cell yx nb1 y5
      clear hC
      go_simp
      try rfl
     try simp only[Act.put,nms]
     refine wpTx_q (some 165) rfl rfl (by rfl) (fun W hC=>?_) ?_
     ·clear hC
      go_simp
      try rfl
     try simp only[Act.put,nms]
     refine wpTx_q (some 166) rfl rfl (by rfl) (fun W hC=>?_) ?_
     ·clear hC
      go_simp
      try rfl
     try simp only[Act.put,nms]
     refine wpTx_q (some 167) rfl rfl (by rfl) (fun W hC=>?_) ?_
     ·have:=hC.cell Owz nb3 CL1.out
      clear hC
      go_simp
      try rfl
     try simp only[Act.put,nms]
     refine wpTx_q (some 168) rfl rfl (by rfl) (fun W hC=>?_) ?_
     ·have:=hC.cell fl3 nb2 m0
      have:=hC.cell fl3 nb2 m1
      have:=hC.cell fl3 nb2 m2
      have:=hC.cell fl3 nb2 m3
      have:=hC.cell fl3 nb2 m4
      clear hC
      go_simp
      try rfl
     try simp only[Act.put,nms]
     refine wpTx_c (some 169) rfl rfl (by rfl) () (fun _=>.slice (some ⟨W3.heap.size,0,none⟩) 1 1) (fun _ W=>W=W3.drew.alloc (.cells #[.int .i64 F0.pk,.int .i64 F0.dst,.int .i64 F0.cls,.bool F0.head,.bool F0.tail] 153)) (fun W hF hC=>?_) (fun _=>?_)
     ·subst hF
      refine LoOp.val (v:=.slice (some ⟨W3.heap.size,0,none⟩) 1 1) (w1:=W3.drew.alloc (.cells #[.int .i64 F0.pk,.int .i64 F0.dst,.int .i64 F0.cls,.bool F0.head,.bool F0.tail] 153)) ?_ ⟨(),rfl,hC.alloc _,rfl⟩
      go_simp
      try rfl
     try simp only[Act.put,nms]
     refine wpTx_c (some 170) rfl rfl (by rfl) ((none,0):Option Addr × Nat) (fun y=>.slice y.1 (R.length+1) y.2) (fun y W9=>kF.R 153 W9 lo (fun _=>True) (.slice y.1 (R++[F0]).length y.2) (R++[F0])∧W3.grownBy W9 (Value.slice At R.length ct).ownBlock∧Anew W3 (.slice y.1 (R++[F0]).length y.2) (.slice At R.length ct)) (fun W hF hC=>?_) (fun yv=>?_)
     ·subst hF
      refine LoOp.of_if (ops:=#[]) rfl rfl (by simp) (by rfl) (app_FgS (ops:=#[]) (W:=W3.drew) (B:=lo) (by rfl) (.tmp 167) (.tmp 169) rfl (.slice At R.length ct) R F0 rfl rfl (Kd.R_below HRow.out (bw_drew (bw_refl _))) lwz hRl ?_)
      intro v9 w9 H9 hg9 ha9
      obtain⟨A9,d9,rfl⟩:=Kd.R_slice H9
      have hg9r:=hg9
      rw[HRB1.out] at hg9r
      refine⟨(A9,d9),?_,CK.grown CK.drew hg9r,H9,⟨hg9.os,hg9.tape,hg9.output,hg9.size,hg9.block⟩,ha9⟩
      show Value.slice A9 (R++[F0]).length d9=.slice A9 (R.length+1) d9
      rw[List.length_append]
      rfl
     try simp only[Act.put,nms]
     refine wpTx_q (some 171) rfl rfl (by rfl) (fun W hC=>?_) ?_
     ·clear hC
      go_simp
      try rfl
     try simp only[Act.put,nms]
     refine wpTx_z (fun w9 hF hC=>?_)
     obtain⟨A9,d9⟩:=yv
     obtain⟨H9,hg9,ha9⟩:=hF
     dsimp only at H9 ha9
     have hg9r:=hg9
     have k1:=hC.cell Owz nb3 CL1.out
     have k2:=hC.frozen Owz nb3 CL2.out
     clear hC
     refine⟨_,rfl,by rfl,?_⟩
     go_simp
     all_goals
      have hl9:(R++[F0]).length=R.length+1:=by simp
      obtain⟨W10,e10⟩:∃ z,z=w9.setCell ⟨g4,t,none⟩ (.slice A9 (R.length+1) d9):=⟨_,rfl⟩
      have HS5:Hid (ST w0 lo bx n ⟨⟨b1,b2,b3,some ⟨g4,0,none⟩,some ⟨g5,0,none⟩,some ⟨g6,0,none⟩,some ⟨g7,0,none⟩,some ⟨g8,0,none⟩,d1,d2,d3,d4,d5,d6,d7,d8⟩,(u4.set t (.slice A9 (R++[F0]).length d9)),u7,u8,(.slice Ag (allGrants n).length cg),(.slice none 0 0),(.slice (some ⟨be,oe,none⟩) (enteringN n).length ce),(.slice none 0 0),allGrants n,[],enteringN n,[]⟩ { x with bufs:=x.bufs.set t (R++[F0]) } W10):=Lib.hid (by
       have hh:=(HS3.out).setBuf (g:=g4) (k:=t) (u:=.slice A9 (R++[F0]).length d9) (y:=R++[F0]) rfl HTL.out (by rw[show vr u4 t=.slice At R.length ct from HV.out];exact hg9) H9 (by rw[show vr u4 t=.slice At R.length ct from HV.out];exact ha9)
       rw[e10,←hl9]
       exact hh)
      have hz10:W3.heap.size≤W10.heap.size:=by rw[e10];simp only[szs];exact hg9.size
      try rw[hl9]
      try rw[←e10]
      clear e10 k1 k2 hg9 hg9r H9 ha9 m0 m1 m2 m3 m4 cl1 cl2 y5
      have q8:W10.cell? ⟨bx,8,none⟩=some (.slice (some ⟨g7,0,none⟩) n.srcs.length d7):=HS5.out.bt.box.get 8
      have qx:bx<W10.heap.size:=HS5.out.bt.lt
      obtain⟨s1,s2⟩:=own_facts7 (x:={ x with bufs:=x.bufs.set t (R++[F0]) }) HS5.out.nx rfl HSL.out HV7.out
      have HC5:=Lib.hid (HD.out _ (row_read7 (x:={ x with bufs:=x.bufs.set t (R++[F0]) }) HS5.out.nx HSL.out HV7.out HSR.out))
      have l10:lo≤W10.heap.size:=by omega
      have O7:g7<W10.heap.size:=by have:=(HTop.out g7 (.inr (.inr (.inr (.inl rfl))))).2;have:=HS5.out.size;omega
      have S1:=Lib.hid s1
      have S2:=Lib.hid s2
      have HB7:Hid (BlkT W10 g7 145):=Lib.hid (own_typed HS5.out.nx.srcs g7 rfl)
      go_wp2_with fail
      refine wp_region_tx (CK W10 none) (fun i=>[.pointer (some ⟨bx,8,none⟩),.slice (some ⟨g7,0,none⟩) n.srcs.length d7,.int .i64 (a:Int),undef,.pointer (some ⟨bx,8,none⟩),.slice (some ⟨g7,0,none⟩) n.srcs.length d7,.int .i64 (a:Int),.pointer (some ⟨g7,a,none⟩),.slice As (rl n.srcs (a:Int)).length cs,.slice A2 D.length (cs - 1),undef,.pointer (some ⟨g7,a,none⟩)].getD i undef) 12 [(0,.quiet),(1,.quiet),(2,.quiet),(3,.chain),(4,.quiet),(5,.quiet),(6,.quiet),(7,.quiet),(8,.quiet),(9,.quiet),(10,.chain),(11,.quiet)] (by kernel_rfl) (by kernel_rfl) (by kernel_rfl) (by kernel_rfl) (by kernel_rfl) (by kernel_rfl) (by kernel_rfl) (by kernel_rfl) CK.drew (fun W=>W=W10.drew) rfl ?_
      refine wpTx_q (some 172) rfl rfl (by rfl) (fun W hC=>?_) ?_
      ·clear hC
       go_simp
       try rfl
      try simp only[Act.put,nms]
      refine wpTx_q (some 173) rfl rfl (by rfl) (fun W hC=>?_) ?_
      ·have:=hC.cell qx (by simp) q8
       clear hC
       go_simp
       try rfl
      try simp only[Act.put,nms]
      refine wpTx_q (some 174) rfl rfl (by rfl) (fun W hC=>?_) ?_
      ·clear hC
       go_simp
       try rfl
      try simp only[Act.put,nms]
      refine wpTx_c (some 175) rfl rfl (by rfl) () (fun _=>.slice (some ⟨W10.heap.size,0,none⟩) 0 0) (fun _ W=>W=W10.drew.alloc (.cells #[] 153)) (fun W hF hC=>?_) (fun _=>?_)
      ·subst hF
       refine LoOp.val (v:=.slice (some ⟨W10.heap.size,0,none⟩) 0 0) (w1:=W10.drew.alloc (.cells #[] 153)) ?_ ⟨(),rfl,hC.alloc _,rfl⟩
       go_simp
       try rfl
      try simp only[Act.put,nms]
      refine wpTx_q (some 176) rfl rfl (by rfl) (fun W hC=>?_) ?_
      ·clear hC
       go_simp
       try rfl
      try simp only[Act.put,nms]
      refine wpTx_q (some 177) rfl rfl (by rfl) (fun W hC=>?_) ?_
      ·have:=hC.cell qx (by simp) q8
       clear hC
       go_simp
       try rfl
      try simp only[Act.put,nms]
      refine wpTx_q (some 178) rfl rfl (by rfl) (fun W hC=>?_) ?_
      ·clear hC
       go_simp
       try rfl
      try simp only[Act.put,nms]
      refine wpTx_q (some 179) rfl rfl (by rfl) (fun W hC=>?_) ?_
      ·clear hC
       go_simp
       try rfl
      try simp only[Act.put,nms]
      refine wpTx_q (some 180) rfl rfl (by rfl) (fun W hC=>?_) ?_
      ·have:=hC.cell O7 (by simp) S1.out
       clear hC
       go_simp
       try rfl
      try simp only[Act.put,nms]
      refine wpTx_q (some 181) rfl rfl (by rfl) (fun W hC=>?_) ?_
      ·clear hC
       go_simp
       try rfl
      try simp only[Act.put,nms]
      refine wpTx_c (some 182) rfl rfl (by rfl) ((none,0):Option Addr × Nat) (fun y=>.slice y.1 D.length y.2) (fun y W9=>kF.R 153 W9 lo (fun _=>True) (.slice y.1 D.length y.2) D∧Below W10.heap.size W10 W9∧At2 W10.heap.size (W10.drew.alloc (.cells #[] 153)).heap.size W9.heap.size (.slice y.1 D.length y.2)) (fun W hF hC=>?_) (fun yv=>?_)
      ·subst hF
       refine LoOp.of_if (ops:=#[]) rfl rfl (by simp) (by rfl) (copyS_F (ops:=#[]) (W:=W10.drew.alloc (.cells #[] 153)) (B:=lo) (by rfl) (.tmp 175) (.tmp 181) rfl W10.heap.size D A2 (cs - 1) rfl rfl (lit_new rfl) l10 (Kd.C_below HC5.out (bw_alloc _ (bw_drew (bw_refl _)))) (by simp only[szs];omega) hDn ?_)
       intro v2 w4 HD4 hb4 ht4
       obtain⟨A4,d4x,rfl⟩:=Kd.R_slice HD4
       exact⟨(A4,d4x),rfl,hC.below hb4,HD4,bw_then (bw_alloc _ (bw_drew (bw_refl _))) hb4,ht4⟩
      try simp only[Act.put,nms]
      refine wpTx_q (some 183) rfl rfl (by rfl) (fun W hC=>?_) ?_
      ·clear hC
       go_simp
       try rfl
      try simp only[Act.put,nms]
      refine wpTx_z (fun w4 hF hC=>?_)
      obtain⟨A4,d9'⟩:=yv
      obtain⟨HD4,hb44,ht4⟩:=hF
      dsimp only at HD4 ht4
      have k1:=hC.cell O7 (by simp) S1.out
      have k2:=hC.frozen O7 (by simp) S2.out
      clear hC
      refine⟨_,rfl,by rfl,?_⟩
      go_simp
      all_goals
       go_wp2
       go_roundw
       case rel=>
        refine⟨k+1,u4.set t (.slice A9 (R++[F0]).length d9),u7.set a (.slice A4 D.length d9'),by go_num,by omega,Lib.hid ?_⟩
        have hh:=HS5.out.setSrc (g:=g7) (k:=a) (u:=.slice A4 D.length d9') (y:=D) rfl HSL.out (grown_below _ hb44) (Kd.R_mono HD4 (fun _ _=>trivial)) (anew_ge (by first|omega|(simp only[szs];omega)) (by first|omega|(simp only[szs];omega)) ht4)
        rw[HNX.out,HEB.out,HRE.out]
        first|exact hh|exact hh.below (bw_drew (bw_refl _))
       case measure=>simp[intOf];omega
    ·skip
     obtain rfl:k=(enteringN n).length:=by omega
     have hx0:enterL n (afterPush n) ((enteringN n).take (enteringN n).length)=enterL n (afterPush n) (enteringN n):=by rw[List.take_length]
     rw[hx0] at HS
     have ti:=time_ok OK.out
     clear hx0
     have x10:wp.cell? ⟨w.heap.size,10,none⟩=some (.int .i64 n.time):=(cell_low HS.out.blw (by omega) 10).trans (HX0.out.get 10)
     have box11:Box wp bx #[.int .i64 n.mesh.g.w,.int .i64 n.mesh.g.h,.slice b1 n.mesh.br.length d1,.slice b2 n.pa.length d2,.slice b3 n.pb.length d3,.slice (some ⟨g4,0,none⟩) n.bufs.length d4,.slice (some ⟨g5,0,none⟩) n.owners.length d5,.slice (some ⟨g6,0,none⟩) n.turns.length d6,.slice (some ⟨g7,0,none⟩) n.srcs.length d7,.slice (some ⟨g8,0,none⟩) n.arrs.length d8,.int .i64 n.time]:=HS.out.bt.box
     obtain⟨z0,z1,z2,z3,z4,z5,z6,z7,z8,z9,z10⟩:=all11 box11
     clear box11
     have f10:=HS.out.bt.frozen 10
     have HZ8:Hid (BN wp (w.heap.size+1)):=Lib.hid (HZB.out.low HS.out.blw (by omega))
     obtain⟨⟨y0,v0⟩,⟨y1,v1⟩,⟨y2,v2⟩,⟨y3,v3⟩,⟨y4,v4⟩,⟨y5,v5⟩,⟨y6,v6⟩,⟨y7,v7⟩,⟨y8,v8⟩,⟨y9,v9⟩,⟨y10,v10⟩,r0,r1,r2,r3,r4,r5,r6,r7,r8,r9,r10⟩:=allBN HZ8.out
     have nz:¬ w.heap.size+1=bx:=by omega
     have nz':¬ bx=w.heap.size+1:=by omega
     go_wp2
     obtain⟨W8,e8⟩:∃ z,z=wp.setCell ⟨bx,10,none⟩ (.int .i64 (n.time+1)):=⟨_,rfl⟩
     rw[←e8]
     have HB8:Hid (BT W8 bx (stepN n) ⟨b1,b2,b3,some ⟨g4,0,none⟩,some ⟨g5,0,none⟩,some ⟨g6,0,none⟩,some ⟨g7,0,none⟩,some ⟨g8,0,none⟩,d1,d2,d3,d4,d5,d6,d7,d8⟩):=Lib.hid (by rw[e8];unfold BT;rw[←netCells_step];exact blk_set HS.out.bt 10 _)
     have HN8:Hid (NX W8 lo (stepN n) ⟨b1,b2,b3,some ⟨g4,0,none⟩,some ⟨g5,0,none⟩,some ⟨g6,0,none⟩,some ⟨g7,0,none⟩,some ⟨g8,0,none⟩,d1,d2,d3,d4,d5,d6,d7,d8⟩ u4 u7 u8):=Lib.hid (by rw[e8];exact(HS.out.nx.typed HS.out.bt.blk (by decide) (by decide) (by decide) 10 _).time (n.time+1))
     have HZ9:Hid (BN W8 (w.heap.size+1)):=Lib.hid (by rw[e8];exact HZ8.out.off nz 10 _)
     have HL8:Hid (Below lo w0 W8):=Lib.hid (by rw[e8];exact below_setc HS.out.blw (by omega) 10 _)
     obtain⟨W9,e9⟩:∃ z,z=putN W8 (w.heap.size+1) { n with time:=n.time+1 } ⟨b1,b2,b3,some ⟨g4,0,none⟩,some ⟨g5,0,none⟩,some ⟨g6,0,none⟩,some ⟨g7,0,none⟩,some ⟨g8,0,none⟩,d1,d2,d3,d4,d5,d6,d7,d8⟩:=⟨_,rfl⟩
     have HB9:Hid (BT W9 (w.heap.size+1) { n with time:=n.time+1 } ⟨b1,b2,b3,some ⟨g4,0,none⟩,some ⟨g5,0,none⟩,some ⟨g6,0,none⟩,some ⟨g7,0,none⟩,some ⟨g8,0,none⟩,d1,d2,d3,d4,d5,d6,d7,d8⟩):=Lib.hid (by rw[e9];exact putN_BT HZ9.out)
     have HN9:Hid (NX W9 lo (stepN n) ⟨b1,b2,b3,some ⟨g4,0,none⟩,some ⟨g5,0,none⟩,some ⟨g6,0,none⟩,some ⟨g7,0,none⟩,some ⟨g8,0,none⟩,d1,d2,d3,d4,d5,d6,d7,d8⟩ u4 u7 u8):=Lib.hid (by rw[e9];exact HN8.out.put HZ9.out)
     have HL9:Hid (Below w.heap.size w W9):=Lib.hid (by
      have h1:Below w.heap.size w W8:=bw_trans HHB.out HL8.out (by omega)
      rw[e9]
      exact below_put h1 (by omega))
     have e9':=e9
     unfold putN at e9'
     try dsimp only at e9'
     rw[←e9']
     clear e9' e9
     exact bodyPost_ret (results_cell_row Tryz.results110 _ _ (w.heap.size+1) 42 _ (0,0) _ rfl HB9.out Tryz.underlying42 rfl (by kernel_rfl)) rfl ⟨⟨⟨b1,b2,b3,some ⟨g4,0,none⟩,some ⟨g5,0,none⟩,some ⟨g6,0,none⟩,some ⟨g7,0,none⟩,some ⟨g8,0,none⟩,d1,d2,d3,d4,d5,d6,d7,d8⟩,u4,u7,u8,by rw[show netCells { n with time:=n.time+1 } ⟨b1,b2,b3,some ⟨g4,0,none⟩,some ⟨g5,0,none⟩,some ⟨g6,0,none⟩,some ⟨g7,0,none⟩,some ⟨g8,0,none⟩,d1,d2,d3,d4,d5,d6,d7,d8⟩=netCells (stepN n) ⟨b1,b2,b3,some ⟨g4,0,none⟩,some ⟨g5,0,none⟩,some ⟨g6,0,none⟩,some ⟨g7,0,none⟩,some ⟨g8,0,none⟩,d1,d2,d3,d4,d5,d6,d7,d8⟩ from netCells_step n ⟨b1,b2,b3,some ⟨g4,0,none⟩,some ⟨g5,0,none⟩,some ⟨g6,0,none⟩,some ⟨g7,0,none⟩,some ⟨g8,0,none⟩,d1,d2,d3,d4,d5,d6,d7,d8⟩],HN9.out.lower (by omega)⟩,HL9.out⟩
end Go.Proofs.YtodbglncccgdbaaGreat
