/- Lemmas for laws of this seat, for all inputs: StI. -/
import Derived.Test.YtodbglncccgdbaaGreatQ12
import Derived.Test.YtodbglncccgdbaaGreatQ4
set_option linter.unusedVariables false
set_option linter.unusedSimpArgs false
namespace Go.Proofs.YtodbglncccgdbaaGreat
open Go.RowKit Go.Proofs.YtodbglncccgdbaaGreatW.PrintWords
open NoC
set_option maxHeartbeats 16000000 in
set_option maxRecDepth 100000 in
theorem impl_step (n:Net) (q:NA) (bx lo:Nat) (v4 v7 v8:List Value) (w:World) (hN:NX w lo n q v4 v7 v8) (hB:BT w bx n q) (nb:NB n) (ok:netOk n=true) (hlo:lo≤bx) (hlw:lo≤w.heap.size) :
  Calls Tryz.prog 70 #[.pointer (some ⟨bx,0,none⟩)] w fun e w'=>e=.returned (.tuple #[])∧(∃ q' u4 u7 u8,NX w' lo (stepN n) q' u4 u7 u8∧BT w' bx (stepN n) q')∧Below lo w w':=by
 have HR:=Lib.hid (hN.reads nb)
 have HN:=Lib.hid hN
 have HBT:=Lib.hid hB
 have OK:=Lib.hid ok
 obtain⟨l4,l5,l6,l7,l8⟩:=lens_ok ok
 obtain⟨a1,a2,a3,a4,a5,a6,a7,a8,c1,c2,c3,c4,c5,c6,c7,c8⟩:=q
 obtain⟨g4,e4,t4,s4⟩:=hN.form4 l4
 obtain⟨g7,e7,t7,s7⟩:=hN.form7 l7
 obtain⟨g8,e8,t8,s8⟩:=hN.form8 l8
 obtain⟨g5,e5,t5,s5⟩:=rowI_form hN.owners l5
 obtain⟨g6,e6,t6,s6⟩:=rowI_form hN.turns l6
 dsimp only at e4 e5 e6 e7 e8
 subst e4 e5 e6 e7 e8
 have sb:=hB.lt
 have gl:=allGrants_len n
 have el:(enteringN n).length≤16:=Nat.le_trans (enterTo_len n n.srcs.length) (srcs_len ok).1
 have HOne:Hid (∀ k:Nat,k<(allGrants n).length→GOne n (rg (allGrants n) k)):=Lib.hid (fun k hk=>grants_one (rg_mem hk))
 have HTop:Hid (∀ g,((some (⟨g4,0,none⟩:Addr))=some ⟨g,0,none⟩∨(some (⟨g5,0,none⟩:Addr))=some ⟨g,0,none⟩∨(some (⟨g6,0,none⟩:Addr))=some ⟨g,0,none⟩∨(some (⟨g7,0,none⟩:Addr))=some ⟨g,0,none⟩∨(some (⟨g8,0,none⟩:Addr))=some ⟨g,0,none⟩)→lo≤g∧g<w.heap.size):=Lib.hid (fun g h=>by
  rcases h with h|h|h|h|h <;> (simp only[Option.some.injEq,Addr.mk.injEq,and_true] at h;subst h;exact⟨by assumption,by assumption⟩))
 clear hN hB nb ok
 go_enter Tryz.func70,Tryz.ntmps70
 go_wp2_with (first|(go_at_call 125;refine(impl_allGrants n _ bx _ (HR.out.below bel) (HBT.out.box.below bel) OK.out).mono ?_;rintro e w1 ⟨hg1,Ba⟩;obtain⟨vg,rfl,HG0⟩:=hg1;obtain⟨Ag,cg,rfl⟩:=Kd.R_slice HG0;have HG1:=Lib.hid HG0;clear HG0;obtain⟨Ca,Fa,Za⟩:=bcell Ba;(try simp only[szs] at Za);have Bb:=far2;obtain⟨Cb,Fb,Zb⟩:=bcell Bb;(try simp only[szs] at Zb);try (first|obtain⟨Ya,Yb,Yc,Yd⟩:=lts4 Zb|obtain⟨Ya,Yb,Yc⟩:=lts3 Zb|obtain⟨Ya,Yb⟩:=lts2 Zb|have Ya:=lts1 Zb);have hb9:=Ba)|(go_at_call 126;refine(impl_entering n _ bx _ (HR.out.below bel) (HBT.out.box.below bel) OK.out).mono ?_;rintro e w2 ⟨hg1,Ba⟩;obtain⟨ve,rfl,HE0⟩:=hg1;obtain⟨Ae,ce,rfl⟩:=Kd.R_slice HE0;have HE1:=Lib.hid HE0;clear HE0;obtain⟨Ca,Fa,Za⟩:=bcell Ba;(try simp only[szs] at Za);have Bb:=far2;obtain⟨Cb,Fb,Zb⟩:=bcell Bb;(try simp only[szs] at Zb);try (first|obtain⟨Ya,Yb,Yc,Yd⟩:=lts4 Zb|obtain⟨Ya,Yb,Yc⟩:=lts3 Zb|obtain⟨Ya,Yb⟩:=lts2 Zb|have Ya:=lts1 Zb);have hb9:=Ba))
 have HB2:Below w.heap.size w w2:=bel
 have HG:=Lib.hid (Kd.R_below HG1.out Ba)
 have HE:=Lib.hid (Kd.R_lower HE1.out (show w.heap.size≤w1.heap.size by omega))
 repeat (first|clear Ca|clear Fa|clear Za|clear Ba|clear hb9|clear Cb|clear Fb|clear Zb|clear Bb|clear Ya|clear Yb|clear Yc|clear Yd)
 clear HG1 HE1
 have z2:=bw_size HB2
 go_loopw [5,27] (fun v i wr=>∃ k:Nat,i=.int .i64 k∧k≤(allGrants n).length∧Kd.R (Kd.int .i64) 3 wr (w2.alloc (.cells #[] 153)).heap.size (fun _=>True) v ((stTs n).take k)∧Below (w2.alloc (.cells #[] 153)).heap.size (w2.alloc (.cells #[] 153)) wr) (fun _ i _=>(allGrants n).length - (intOf i).toNat)
 case atStart=>exact⟨0,rfl,Nat.zero_le _,R_empty' (Kd.int .i64) 3 (W0:=w2.alloc (.cells #[] 153)) (W:=w2.alloc (.cells #[] 153)) (Nat.le_refl _) (w2.heap.size+1) (by simp only[szs]),bel⟩
 case round=>
  obtain⟨k,rfl,hk,HO,HB⟩:=hrel
  obtain⟨wo,ewo⟩:∃ x,x=wr:=⟨_,rfl⟩
  subst ewo
  have hlt2:((stTs n).take k).length≤80:=by rw[List.length_take];omega
  obtain⟨L,hL⟩:∃ L,(stTs n).take k=L:=⟨_,rfl⟩
  rw[hL] at HO hlt2
  have HL:=Lib.hid hL
  clear hL
  obtain⟨Ao,co,rfl⟩:=Kd.R_slice HO
  have hzr:=bw_size HB
  simp only[szs] at hzr
  have HBw:Below w.heap.size w wo:=bw_then HB2 (bw_then (bw_alloc _ (bw_refl w2)) HB)
  have HGr:=Lib.hid (Kd.R_below (Kd.R_below HG.out (bw_alloc (.cells #[] 153) (bw_refl w2))) HB)
  by_cases hlt:k<(allGrants n).length
  ·have i0:(k:Int)<((allGrants n).length:Int):=by omega
   have k0:(0:Int)≤(k:Int):=by omega
   obtain⟨bg,og,rfl,hbg,p0,p1,p2⟩:=rdG_at (Kd.R_rowX HGr.out).2.2 k hlt
   have HT:=Lib.hid (stTs_take n k hlt)
   rw[HL.out] at HT
   have hone:=HOne.out k hlt
   obtain⟨g,eg⟩:∃ g,rg (allGrants n) k=g:=⟨_,rfl⟩
   rw[eg] at p0 p1 p2 HT hone
   have nd:=Lib.hid hone.nd
   have q0:=hone.p0
   have q1:=hone.p4
   have q2:=hone.i0
   have q3:=hone.i9
   have m0:0≤g.input % 2:=by omega
   have m1:g.input % 2≤1:=by omega
   clear hone eg
   go_wp2_with (first|(go_at_call 127;refine(impl_behind n _ bx g.node g.port (g.input % 2) _ (HR.out.below bel) (HBT.out.box.below bel) OK.out nd.out q0 q1 m0 m1).mono ?_;rintro e w1 ⟨rfl,Ba⟩;obtain⟨Ca,Fa,Za⟩:=bcell Ba;(try simp only[szs] at Za);have Bb:=far2;obtain⟨Cb,Fb,Zb⟩:=bcell Bb;(try simp only[szs] at Zb);try (first|obtain⟨Ya,Yb,Yc,Yd⟩:=lts4 Zb|obtain⟨Ya,Yb,Yc⟩:=lts3 Zb|obtain⟨Ya,Yb⟩:=lts2 Zb|have Ya:=lts1 Zb);have hb9:=Ba)|(at_builtin;refine app_int (W0:=w2.alloc (.cells #[] 153)) rfl (.tmp 31) (.tmp 41) 26 3 rfl Tryz.underlying26 info_int _ L _ rfl (by first|rfl|exact congrArg (fun z=>Value.slice (some ⟨z,0,none⟩) 1 1) (World.size_alloc _ _).symm) (by exact Kd.R_below HO bel) bel (by omega) ?_;intro v1 w3 HO1 HB1;obtain⟨Ca,Fa,Za⟩:=bcell HB1;(try simp only[szs] at Za);have Bb:=HB1;have hb9:=HB1))
   go_roundw
   case rel=>exact⟨k+1,by go_num,by omega,by rw[HT.out];exact(by exact Kd.R_below HO1 bel),bel⟩
   case measure=>simp[intOf];omega
  ·obtain rfl:k=(allGrants n).length:=by omega
   have hLT:L=stTs n:=by rw[←HL.out,List.take_of_length_le (by simp[stTs])]
   subst hLT
   have HS0:Hid (ST w lo bx n ⟨⟨a1,a2,a3,some ⟨g4,0,none⟩,some ⟨g5,0,none⟩,some ⟨g6,0,none⟩,some ⟨g7,0,none⟩,some ⟨g8,0,none⟩,c1,c2,c3,c4,c5,c6,c7,c8⟩,v4,v7,v8,(.slice Ag (allGrants n).length cg),(.slice Ao (stTs n).length co),(.slice Ae (enteringN n).length ce),(.slice (some ⟨w2.heap.size,0,none⟩) 0 0),allGrants n,stTs n,enteringN n,[]⟩ n wo):=Lib.hid ⟨HN.out.below HBw,HBT.out.below HBw,HGr.out,Kd.R_lower HO (by simp only[szs];omega),Kd.R_below HE.out (bw_then (bw_alloc _ (bw_refl w2)) HB),R_lit kF (lit_stp ⟨HB⟩ (lit_new rfl)) z2,fun i hi=>apart_of (within_R (HN.out.rows.row i hi)) (r:=fun x=>x=w2.heap.size) (fun x hx=>(Option.some.inj hx).symm) (fun x h1 h2=>by omega),Below.cut HBw hlw,hlw,⟨hlo,sb⟩,HTop.out⟩
   clear HO HB hzr HBw HGr hlt2 HL HG HE HB2 z2 hlt
   go_wp2
   go_loopw [4,46] (fun v i wr=>∃ (k:Nat) (u4:List Value) (vm:Value),i=.int .i64 k∧v=vm∧k≤(allGrants n).length∧Hid (ST w lo bx n ⟨⟨a1,a2,a3,some ⟨g4,0,none⟩,some ⟨g5,0,none⟩,some ⟨g6,0,none⟩,some ⟨g7,0,none⟩,some ⟨g8,0,none⟩,c1,c2,c3,c4,c5,c6,c7,c8⟩,u4,v7,v8,(.slice Ag (allGrants n).length cg),(.slice Ao (stTs n).length co),(.slice Ae (enteringN n).length ce),vm,allGrants n,stTs n,enteringN n,(stMs n).take k⟩ { n with bufs:=popL n.bufs ((allGrants n).take k) } wr)) (fun _ i _=>(allGrants n).length - (intOf i).toNat)
   case atStart=>exact⟨0,v4,_,rfl,rfl,Nat.zero_le _,Lib.hid HS0.out⟩
   case round=>
    clear HS0
    obtain⟨k,u4,vm,rfl,rfl,hk,HS⟩:=hrel
    obtain⟨wp,ewp⟩:∃ x,x=wr:=⟨_,rfl⟩
    subst ewp
    have zz:=HS.out.size
    have zl:=HS.out.low
    have xl:=HS.out.bt.lt
    by_cases hlt:k<(allGrants n).length
    ·have i0:(k:Int)<((allGrants n).length:Int):=by omega
     have k0:(0:Int)≤(k:Int):=by omega
     have hone:=HOne.out k hlt
     have hrng:=(grants_GsOk OK.out).range _ (rg_mem hlt)
     have hpk:=pop_k OK.out hlt
     have hpn:=pop_next OK.out hlt
     have hms:=stMs_take n k hlt
     have hmd:=(hone.at OK.out).idx
     have hfull:=hone.full
     have hgr:=HS.out.g
     dsimp only at hgr
     obtain⟨bg,og,eAg,hbg,p0,p1,p2⟩:=rdG_at (Kd.R_rowX hgr).2.2 k hlt
     obtain⟨g,eg⟩:∃ g,rg (allGrants n) k=g:=⟨_,rfl⟩
     rw[eg] at p0 p1 p2 hone hrng hpk hpn hms hmd hfull
     obtain⟨j,hj⟩:∃ j:Nat,10*g.node+g.input=(j:Int):=⟨(10*g.node+g.input).toNat,by have:=hrng.1;unfold gIdx at this;omega⟩
     have hgj:gIdx g=(j:Int):=hj
     have hmv:mvF n g=rf (rl n.bufs (j:Int)) 0:=by unfold mvF;rw[hgj]
     rw[hgj] at hrng hpk hpn hfull
     rw[Int.toNat_natCast] at hpn
     rw[hmv] at hms
     have hjl:j<n.bufs.length:=by omega
     have hjp:j<(popL n.bufs ((allGrants n).take k)).length:=by rw[popL_len];exact hjl
     have hrow:=HS.out.nx.row4 j hjp
     dsimp only at hrow
     rw[hpk] at hrow
     obtain⟨Aj,cj,hv⟩:=Kd.R_slice hrow
     rw[hv] at hrow
     obtain⟨_,hlc,hCj⟩:=Kd.R_rowX hrow
     obtain⟨r,ro,eAj,hr,f0,f1,f2,f3,f4⟩:=rdFl_0 hCj hfull
     have hcell:=(own_cell HS.out.nx.bufs hjp).1
     dsimp only at hcell
     rw[hv] at hcell
     have x5:wp.cell? ⟨bx,5,none⟩=some (.slice (some ⟨g4,0,none⟩) n.bufs.length c4):=HS.out.bt.box.get 5
     have hg4:g4<wp.heap.size:=by have:=(HTop.out g4 (.inl rfl)).2;omega
     have n0:=hone.i0
     have n9:=hone.i9
     have a0:=hmd.1
     have a15:=hmd.2.1
     have j0:(0:Int)≤(j:Int):=by omega
     have j1:(j:Int)<(n.bufs.length:Int):=by omega
     obtain⟨D,hD⟩:∃ D,(rl n.bufs (j:Int)).drop 1=D:=⟨_,rfl⟩
     have hDl:D.length=(rl n.bufs (j:Int)).length - 1:=by rw[←hD,List.length_drop]
     have hDn:D.length≤10000000:=by have:=HR.out.h9 _ (rl_mem hjl);omega
     obtain⟨A2,hA2⟩:∃ A2,(if cj=1 then Aj else Aj.map (·.add 5))=A2:=⟨_,rfl⟩
     have hcut:∀ W:World,(Instr.slice 145 (.slice Aj (rl n.bufs (j:Int)).length cj) (some (.int .i64 1)) none none).run Tryz.prog W=.ok (.slice A2 D.length (cj - 1)) W:=fun W=>by rw[cut_fromF Aj _ cj (by omega) W,hA2,hDl]
     have HD:Hid (∀ W,kF.C W Aj (rl n.bufs (j:Int)).length (rl n.bufs (j:Int))→kF.C W A2 D.length D):=Lib.hid (fun W h=>by
      have:=Kd.C_drop h (m:=1) (by omega) hlc
      rw[hD,show 1*kF.sz=5 from rfl,hA2] at this
      exact this)
     obtain⟨M,hM⟩:∃ M,(stMs n).take k=M:=⟨_,rfl⟩
     rw[hM] at hms HS
     have hMl:M.length≤80:=by rw[←hM,List.length_take];omega
     rw[hD] at hpn
     have HPN:=Lib.hid hpn
     have HFU:=Lib.hid hfull
     have HMS:=Lib.hid hms
     have HV:=Lib.hid hv
     have HJP:=Lib.hid hjp
     have HPK:=Lib.hid hpk
     clear hone hrng hpk hpn hmd hfull hgr hrow hlc hCj hmv hgj hM hA2 hD hDl hv hjp eg hms
     subst eAj
     subst eAg
     obtain⟨W3,hW3⟩:∃ W3,W3=wp.alloc (.cells #[.int .i64 g.node,.int .i64 g.port,.int .i64 g.input] 161):=⟨_,rfl⟩
     have B9:Box W3 wp.heap.size #[.int .i64 g.node,.int .i64 g.port,.int .i64 g.input]:=by subst hW3;exact Box.new wp _ _ _ rfl
     have hb3:Below wp.heap.size wp W3:=by subst hW3;exact bw_alloc _ (bw_refl wp)
     have y0:W3.cell? ⟨wp.heap.size,0,none⟩=some (.int .i64 g.node):=B9.get 0
     have y2:W3.cell? ⟨wp.heap.size,2,none⟩=some (.int .i64 g.input):=B9.get 2
     have yl:=B9.lt
     have y5:W3.cell? ⟨bx,5,none⟩=some (.slice (some ⟨g4,0,none⟩) n.bufs.length c4):=((bcell hb3).1 bx 5 xl).trans x5
     have yx:bx<W3.heap.size:=by omega
     clear B9
     go_wp2_with fail
     rw[←hW3]
     refine wp_region_far (W3) (by kernel_rfl) (by kernel_rfl) bel ?_
     have hqc:=far_cell (W3)
     have hqf:=far_frozen (W3)
     repeat (first|go_big_quiet_step (fail)|quiet_step (fail))
     refine wpQuiet_nil ?_
     intro wq hbq
     clear hqc hqf
     obtain⟨hcq,hfq,hzq⟩:=bcell hbq
     try simp only[szs] at hzq
     have HSq:=Lib.hid (HS.out.below (bw_then hb3 hbq))
     have eqA:=Lib.hid (own_facts (x:={ n with bufs:=popL n.bufs ((allGrants n).take k) }) HSq.out.nx rfl HJP.out HV.out)
     have hzb:=bw_size (bw_then hb3 hbq)
     obtain⟨q1,q2⟩:=eqA.out
     have q3:=(hcq r ro (by omega)).trans (((bcell hb3).1 r ro hr).trans f0)
     have q4:=(hcq r (ro+1) (by omega)).trans (((bcell hb3).1 r (ro+1) hr).trans f1)
     have q5:=(hcq r (ro+2) (by omega)).trans (((bcell hb3).1 r (ro+2) hr).trans f2)
     have q6:=(hcq r (ro+3) (by omega)).trans (((bcell hb3).1 r (ro+3) hr).trans f3)
     have q7:=(hcq r (ro+4) (by omega)).trans (((bcell hb3).1 r (ro+4) hr).trans f4)
     have lpos:(0:Int)<((rl n.bufs (j:Int)).length:Int):=by have:=HFU.out;omega
     clear x5 y0 y2 y5 f0 f1 f2 f3 f4 hcq hfq hzq p0 p1 p2 hcell
     go_wp2_with (first|(at_builtin;refine app_Fg (B:=w.heap.size) rfl (.tmp 61) (.tmp 67) rfl _ M (rf (rl n.bufs (j:Int)) 0) rfl (by first|rfl|exact congrArg (fun z=>Value.slice (some ⟨z,0,none⟩) 1 1) (World.size_alloc _ _).symm) HSq.out.m (by omega) (by omega) ?_;intro vm1 w3 HM1 hgm hat1;have HS3:=Lib.hid (HSq.out.moved hgm HM1 hat1);have e3:=Lib.hid (own_facts (x:={ n with bufs:=popL n.bufs ((allGrants n).take k) }) HS3.out.nx rfl HJP.out HV.out);obtain⟨r1,r2⟩:=e3.out;have zz3:=HS3.out.size;have g43:g4<w3.heap.size:=(by have:=(HTop.out g4 (.inl rfl)).2;omega);have HC3:=Lib.hid (HD.out _ (row_read (x:={ n with bufs:=popL n.bufs ((allGrants n).take k) }) HS3.out.nx HJP.out HV.out HPK.out)))|(at_builtin;refine copy_F (B:=lo) rfl (.tmp 70) (.tmp 74) rfl _ D A2 (cj - 1) rfl rfl (by with_reducible repeat (first|assumption|(refine lit_new ?_;first|done|rfl|(simp only[World.size_alloc,World.size_drew,World.size_setCell];done))|exact lit_new (by simp only[World.size_alloc,World.size_drew,World.size_setCell])|refine lit_stp (by assumption) ?_|refine lit_alloc _ ?_|refine lit_drew ?_)) (by omega) (by exact Kd.C_below HC3.out bel) (by first|omega|(simp only[szs];omega)) hDn ?_;intro v2 w4 HD4 hb4 ht4;obtain⟨A4,d4,rfl⟩:=Kd.R_slice HD4;have hb34:=bw_then (bw_alloc _ (bw_refl w3)) hb4;have HS4:=Lib.hid (HS3.out.below hb34);have e4:=Lib.hid (own_facts (x:={ n with bufs:=popL n.bufs ((allGrants n).take k) }) HS4.out.nx rfl HJP.out HV.out);obtain⟨s1,s2⟩:=e4.out))
     go_roundw
     case rel=>
      refine⟨k+1,u4.set j (.slice A4 D.length d4),vm1,by go_num,rfl,by omega,Lib.hid ?_⟩
      have hset:=HS3.out.setBuf (g:=g4) (k:=j) (u:=.slice A4 D.length d4) (y:=D) rfl HJP.out (grown_below _ hb34) (Kd.R_mono HD4 (fun _ _=>trivial)) (anew_lit (by simpa only [szs] using ht4))
      rw[HPN.out,HMS.out]
      exact hset
     case measure=>simp[intOf];omega
    ·obtain rfl:k=(allGrants n).length:=by omega
     have hx0:({ n with bufs:=popL n.bufs ((allGrants n).take (allGrants n).length) }:Net)=pushL n (afterPop n) ((allGrants n).take 0):=by rw[List.take_length];rfl
     have hm0:(stMs n).take (allGrants n).length=stMs n:=List.take_of_length_le (by simp[stMs])
     rw[hx0,hm0] at HS
     obtain⟨Am,cm,eAm⟩:=Kd.R_slice HS.out.m
     try dsimp only at eAm
     subst eAm
     clear hx0 hm0 hlt zz zl xl
     go_wp2
     go_loopw [80] (fun i wr=>∃ (k:Nat) (u4 u8:List Value),i=.int .i64 k∧k≤(allGrants n).length∧Hid (ST w lo bx n ⟨⟨a1,a2,a3,some ⟨g4,0,none⟩,some ⟨g5,0,none⟩,some ⟨g6,0,none⟩,some ⟨g7,0,none⟩,some ⟨g8,0,none⟩,c1,c2,c3,c4,c5,c6,c7,c8⟩,u4,v7,u8,(.slice Ag (allGrants n).length cg),(.slice Ao (stTs n).length co),(.slice Ae (enteringN n).length ce),(.slice Am (stMs n).length cm),allGrants n,stTs n,enteringN n,stMs n⟩ (pushL n (afterPop n) ((allGrants n).take k)) wr)) (fun i _=>(allGrants n).length - (intOf i).toNat)
     case atStart=>exact⟨0,u4,v8,rfl,Nat.zero_le _,Lib.hid HS.out⟩
     case round=>
      clear HS
      obtain⟨k,u4,u8,rfl,hk,HS⟩:=hrel
      obtain⟨wp,ewp⟩:∃ z,z=wr:=⟨_,rfl⟩
      subst ewp
      have zz:=HS.out.size
      have zl:=HS.out.low
      have xl:=HS.out.bt.lt
      by_cases hlt:k<(allGrants n).length
      ·have k0:(0:Int)≤(k:Int):=by omega
       have hone:=HOne.out k hlt
       have hmd:=(hone.at OK.out).idx
       have hlen:=((Lens.pop n).pushL ((allGrants n).take k) (m:=n))
       have hrb1:=fun t:Nat=>pushL_rows n t ((allGrants n).take k) (afterPop n)
       have hrb2:=fun t:Nat=>pop_rows t (allGrants n) n.bufs
       have hnx:=pushL_next n (afterPop n) k hlt
       have htg:=stTs_get n k hlt
       have hmg:=stMs_get n k hlt
       have hgr:=HS.out.g
       try dsimp only at hgr
       obtain⟨bg,og,eAg,hbg,p0,p1,p2⟩:=rdG_at (Kd.R_rowX hgr).2.2 k hlt
       obtain⟨g,eg⟩:∃ g,rg (allGrants n) k=g:=⟨_,rfl⟩
       rw[eg] at p0 p1 p2 hone hmd hnx htg hmg
       obtain⟨x,hx⟩:∃ x,pushL n (afterPop n) ((allGrants n).take k)=x:=⟨_,rfl⟩
       rw[hx] at HS hlen hnx
       have HRB:Hid (∀ t:Nat,(rl x.bufs (t:Int)).length≤90000000∧(rl x.arrs (t:Int)).length≤90000000):=Lib.hid (fun t=>by
        have h1:=hrb1 t
        rw[hx,List.length_take] at h1
        have h2:=hrb2 t
        have h3:(rl (afterPop n).bufs (t:Int)).length=(rl (popL n.bufs (allGrants n)) (t:Int)).length:=rfl
        have h4:(rl (afterPop n).arrs (t:Int)).length=(rl n.arrs (t:Int)).length:=rfl
        have h5:=rl_bound HR.out.h9 t
        have h6:=rl_bound HR.out.h11 t
        omega)
       have hkm:k<(stMs n).length:=by simp[stMs,hlt]
       have hkt:k<(stTs n).length:=by simp[stTs,hlt]
       have i0:(k:Int)<((allGrants n).length:Int):=by omega
       have i1:(k:Int)<((stMs n).length:Int):=by omega
       have i2:(k:Int)<((stTs n).length:Int):=by omega
       obtain⟨bm,om,eAm,_⟩:=rdFl_at (Kd.R_rowX HS.out.m).2.2 k hkm
       try dsimp only at eAm
       obtain⟨bt,ot,eAo,hbt,hct⟩:=rdI_at (Kd.R_rowX HS.out.t).2.2 k hkt
       try dsimp only at eAo
       have ht0:=hct k hkt
       rw[htg] at ht0
       subst eAm eAo eAg
       obtain⟨F0,hF0⟩:∃ F0,mvF n g=F0:=⟨_,rfl⟩
       rw[hF0] at hmg
       have HMK:=Lib.hid hmg
       have HF0:=Lib.hid hF0
       have HLen:=Lib.hid hlen
       have HNX:=Lib.hid hnx
       have n0:=hone.i0
       have n9:=hone.i9
       have p0':=hone.p0
       have p4':=hone.p4
       have a0:=hmd.1
       have a15:=hmd.2.1
       have aA:g.node<(n.arrs.length:Int):=hmd.2.2.2.2.2.2.2
       have aO:10*g.node+10≤(n.owners.length:Int):=hmd.2.2.2.2.1
       have aT:5*g.node+5≤(n.turns.length:Int):=hmd.2.2.2.2.2.1
       have mm0:0≤g.input % 2:=by omega
       have mm1:g.input % 2≤1:=by omega
       obtain⟨at_,hat⟩:∃ at_:Nat,10*g.node+2*g.port+g.input % 2=(at_:Int):=⟨(10*g.node+2*g.port+g.input % 2).toNat,by omega⟩
       have HAT:=Lib.hid hat
       obtain⟨tn,htn⟩:∃ tn:Nat,tn=(5*g.node+g.port).toNat:=⟨_,rfl⟩
       have HTNN:Hid ((tn:Int)=5*g.node+g.port):=Lib.hid (by omega)
       clear hat
       have htm:g.input.tmod 2=g.input % 2:=Int.tmod_eq_emod_of_nonneg n0
       have htm2:(g.input+1).tmod 10=(g.input+1) % 10:=Int.tmod_eq_emod_of_nonneg (by omega)
       have HTO:Hid (¬ g.port=4→0≤gTo n g∧gTo n g<(n.bufs.length:Int)):=Lib.hid (fun h4=>by have:=hone.to OK.out h4;exact⟨this.1,this.2.1⟩)
       have HBH:Hid (behindN n g.node g.port (g.input % 2)=if g.port=4 then -1 else gTo n g):=Lib.hid (by
        unfold behindN
        by_cases h4:g.port=4
        ·rw[if_pos h4,if_pos h4]
        ·rw[if_neg h4,if_neg h4,if_pos (hone.live h4).1]
         rfl)
       clear hone hmd hlen hrb1 hrb2 hnx htg hmg hgr hF0 hct eg hx
       obtain⟨W3,hW3⟩:∃ W3,W3=wp.alloc (.cells #[.int .i64 g.node,.int .i64 g.port,.int .i64 g.input] 161):=⟨_,rfl⟩
       have HG3:Hid (GB W3 wp.heap.size g):=Lib.hid (by subst hW3;exact blk_new wp _)
       have hb3:Below wp.heap.size wp W3:=by subst hW3;exact bw_alloc _ (bw_refl wp)
       obtain⟨y0,y1,y2,yl⟩:=HG3.out.cells
       have y9:W3.cell? ⟨bx,9,none⟩=some (.slice (some ⟨g8,0,none⟩) n.arrs.length c8):=(HS.out.below hb3).bt.box.get 9
       have y5:W3.cell? ⟨bx,5,none⟩=some (.slice (some ⟨g4,0,none⟩) n.bufs.length c4):=(HS.out.below hb3).bt.box.get 5
       have yx:bx<W3.heap.size:=(HS.out.below hb3).bt.lt
       have yt:W3.cell? ⟨bt,ot+k,none⟩=some (.int .i64 (behindN n g.node g.port (g.input % 2))):=((bcell hb3).1 bt (ot+k) hbt).trans ht0
       have ybt:bt<W3.heap.size:=by have:=bw_size hb3;omega
       clear ht0
       go_wp2_with fail
       rw[←hW3]
       clear hW3
       refine wp_region_far (W3) (by kernel_rfl) (by kernel_rfl) bel ?_
       have hqc:=far_cell (W3)
       have hqf:=far_frozen (W3)
       repeat (first|go_big_quiet_step (fail)|quiet_step (fail))
       refine wpQuiet_nil ?_
       intro wq hbq
       clear hqc hqf
       obtain⟨hcq,hfq,hzq⟩:=bcell hbq
       try simp only[szs] at hzq
       have hbz:Below wp.heap.size wp wq:=bw_then hb3 hbq
       have hb3z:=hbq
       have yq:=(hcq bt (ot+k) ybt).trans yt
       by_cases h4:g.port=4
       ·obtain⟨t,ht⟩:∃ t:Nat,t=g.node.toNat:=⟨_,rfl⟩
        have htn:(t:Int)=g.node:=by omega
        rw[HBH.out,if_pos h4] at yq
        have H4:=Lib.hid h4
        clear h4 yt hcq hfq hzq y0 y1 y2 y9 y5
        obtain⟨wz,ez⟩:∃ z,z=wq:=⟨_,rfl⟩
        subst ez
        go_wp2_with fail
        rw[←ht]
        have HTN:=Lib.hid htn
        have htl0:t<n.arrs.length:=by omega
        clear ht htn yq
        have HSz:=Lib.hid (HS.out.below hbz)
        have HGz:=Lib.hid (HG3.out.below hb3z)
        have hzz:=bw_size hbz
        have htl:t<x.arrs.length:=by have:=HLen.out.a;omega
        have hrow:=HSz.out.nx.row8 t htl
        try dsimp only at hrow
        obtain⟨At,ct,hv⟩:=Kd.R_slice hrow
        rw[hv] at hrow
        obtain⟨R,hR⟩:∃ R,rl x.arrs (t:Int)=R:=⟨_,rfl⟩
        rw[hR] at hrow hv
        have hRl:R.length≤100000000:=by have:=HRB.out t;rw[←hR];omega
        obtain⟨cl1,cl2⟩:=own_facts8 (x:=x) HSz.out.nx rfl htl hv
        obtain⟨rb,hrb⟩:∃ rb,(Value.slice At R.length ct).ownBlock=rb:=⟨_,rfl⟩
        have nb1:¬ some bx=rb:=fun e=>by obtain⟨inner,hin⟩:=Kd.R_own hrow;exact own_ne hin HSz.out.bt (by decide) (e.trans hrb.symm)
        have nb2:¬ some bm=rb:=fun e=>by
         have hap:=HSz.out.ma (x.bufs.length+(x.srcs.length+t)) (by simp[allR];omega)
         rw[all8 HSz.out.nx] at hap
         dsimp only at hap
         rw[hv] at hap
         rcases hap with h0|h0
         ·rw[hrb,←e] at h0;cases h0
         ·exact h0 (hrb.trans e.symm)
        have hBO:BlkT wz g8 145:=own_typed HSz.out.nx.arrs g8 rfl
        have nb3:¬ some g8=rb:=fun e=>by
         obtain⟨inner,hin⟩:=Kd.R_own hrow
         obtain⟨cs,hc⟩:=hBO
         exact own_ne hin hc (by decide) (e.trans hrb.symm)
        have nbm:¬ bm=g8:=fun e=>by
         obtain⟨inner,hin⟩:=Kd.R_own HSz.out.m
         obtain⟨cs,hc⟩:=hBO
         exact own_ne hin hc (by decide) (by rw[←e];rfl)
        obtain⟨mb,m0,m1,m2,m3,m4⟩:=flC (Kd.R_rowX HSz.out.m).2.2 k hkm
        try dsimp only at m0 m1 m2 m3 m4
        rw[HMK.out] at m0 m1 m2 m3 m4
        have HRow:=Lib.hid hrow
        have HV:=Lib.hid hv
        have HRE:=Lib.hid hR
        have HRB1:=Lib.hid hrb
        have HTL:=Lib.hid htl
        have HBO:=Lib.hid hBO
        have lwz:lo≤wz.heap.size:=Nat.le_trans HSz.out.low HSz.out.size
        have Owz:g8<wz.heap.size:=by have:=(HTop.out g8 (.inr (.inr (.inr (.inr rfl))))).2;have:=HSz.out.size;omega
        have CL1:=Lib.hid cl1
        have CL2:=Lib.hid cl2
        clear hrow hv hR htl hBO hrb
        refine wp_region_tx (CK wz rb) (fun i=>[.pointer (some ⟨g8,t,none⟩),.pointer (some ⟨g8,t,none⟩),.pointer (some ⟨g8,t,none⟩),.slice At R.length ct,.slice (some ⟨bm,om,none⟩) (stMs n).length cm,.int .i64 (k:Int),.pointer (some ⟨bm,om+k*5,none⟩),.agg #[.int .i64 F0.pk,.int .i64 F0.dst,.int .i64 F0.cls,.bool F0.head,.bool F0.tail],undef,undef,.pointer (some ⟨g8,t,none⟩)].getD i undef) 11 [(0,.quiet),(1,.quiet),(2,.quiet),(3,.quiet),(4,.quiet),(5,.quiet),(6,.quiet),(7,.quiet),(8,.chain),(9,.chain),(10,.quiet)] (by kernel_rfl) (by kernel_rfl) (by kernel_rfl) (by kernel_rfl) (by kernel_rfl) (by kernel_rfl) (by kernel_rfl) (by kernel_rfl) CK.drew (fun W=>W=wz.drew) rfl ?_
        refine wpTx_q (some 106) rfl rfl (by rfl) (fun W hC=>?_) ?_
        ·clear hC
         go_simp
         try rfl
        try simp only[Act.put,nms]
        refine wpTx_q (some 107) rfl rfl (by rfl) (fun W hC=>?_) ?_
        ·clear hC
         go_simp
         try rfl
        try simp only[Act.put,nms]
        refine wpTx_q (some 108) rfl rfl (by rfl) (fun W hC=>?_) ?_
        ·clear hC
         go_simp
         try rfl
        try simp only[Act.put,nms]
        refine wpTx_q (some 109) rfl rfl (by rfl) (fun W hC=>?_) ?_
        ·have:=hC.cell Owz nb3 CL1.out
         clear hC
         go_simp
         try rfl
        try simp only[Act.put,nms]
        refine wpTx_q (some 110) rfl rfl (by rfl) (fun W hC=>?_) ?_
        ·clear hC
         go_simp
         try rfl
        try simp only[Act.put,nms]
        refine wpTx_q (some 111) rfl rfl (by rfl) (fun W hC=>?_) ?_
        ·clear hC
         go_simp
         try rfl
        try simp only[Act.put,nms]
        refine wpTx_q (some 112) rfl rfl (by rfl) (fun W hC=>?_) ?_
        ·clear hC
         go_simp
         try rfl
        try simp only[Act.put,nms]
        refine wpTx_q (some 113) rfl rfl (by rfl) (fun W hC=>?_) ?_
        ·have:=hC.cell mb nb2 m0
         have:=hC.cell mb nb2 m1
         have:=hC.cell mb nb2 m2
         have:=hC.cell mb nb2 m3
         have:=hC.cell mb nb2 m4
         clear hC
         go_simp
         try rfl
        try simp only[Act.put,nms]
        refine wpTx_c (some 114) rfl rfl (by rfl) () (fun _=>.slice (some ⟨wz.heap.size,0,none⟩) 1 1) (fun _ W=>W=wz.drew.alloc (.cells #[.int .i64 F0.pk,.int .i64 F0.dst,.int .i64 F0.cls,.bool F0.head,.bool F0.tail] 153)) (fun W hF hC=>?_) (fun _=>?_)
        ·subst hF
         refine LoOp.val (v:=.slice (some ⟨wz.heap.size,0,none⟩) 1 1) (w1:=wz.drew.alloc (.cells #[.int .i64 F0.pk,.int .i64 F0.dst,.int .i64 F0.cls,.bool F0.head,.bool F0.tail] 153)) ?_ ⟨(),rfl,hC.alloc _,rfl⟩
         go_simp
         try rfl
        try simp only[Act.put,nms]
        refine wpTx_c (some 115) rfl rfl (by rfl) ((none,0):Option Addr × Nat) (fun y=>.slice y.1 (R.length+1) y.2) (fun y W9=>kF.R 153 W9 lo (fun _=>True) (.slice y.1 (R++[F0]).length y.2) (R++[F0])∧wz.grownBy W9 (Value.slice At R.length ct).ownBlock∧Anew wz (.slice y.1 (R++[F0]).length y.2) (.slice At R.length ct)) (fun W hF hC=>?_) (fun y=>?_)
        ·subst hF
         refine LoOp.of_if (ops:=#[]) rfl rfl (by simp) (by rfl) (app_FgS (ops:=#[]) (W:=wz.drew) (B:=lo) (by rfl) (.tmp 109) (.tmp 114) rfl (.slice At R.length ct) R F0 rfl rfl (Kd.R_below HRow.out (bw_drew (bw_refl _))) lwz hRl ?_)
         intro v9 w9 H9 hg9 ha9
         obtain⟨A9,d9,rfl⟩:=Kd.R_slice H9
         have hg9r:=hg9
         rw[HRB1.out] at hg9r
         refine⟨(A9,d9),?_,CK.grown CK.drew hg9r,H9,⟨hg9.os,hg9.tape,hg9.output,hg9.size,hg9.block⟩,ha9⟩
         show Value.slice A9 (R++[F0]).length d9=.slice A9 (R.length+1) d9
         rw[List.length_append]
         rfl
        try simp only[Act.put,nms]
        refine wpTx_q (some 116) rfl rfl (by rfl) (fun W hC=>?_) ?_
        ·clear hC
         go_simp
         try rfl
        try simp only[Act.put,nms]
        refine wpTx_z (fun w9 hF hC=>?_)
        obtain⟨A9,d9⟩:=y
        obtain⟨H9,hg9,ha9⟩:=hF
        dsimp only at H9 ha9
        have hg9r:=hg9
        have k1:=hC.cell Owz nb3 CL1.out
        have k2:=hC.frozen Owz nb3 CL2.out
        clear hC
        refine⟨_,rfl,by rfl,?_⟩
        go_simp
        all_goals
         have hl9:(R++[F0]).length=R.length+1:=by simp
         obtain⟨W10,e10⟩:∃ z,z=w9.setCell ⟨g8,t,none⟩ (.slice A9 (R.length+1) d9):=⟨_,rfl⟩
         have HS5:Hid (ST w lo bx n ⟨⟨a1,a2,a3,some ⟨g4,0,none⟩,some ⟨g5,0,none⟩,some ⟨g6,0,none⟩,some ⟨g7,0,none⟩,some ⟨g8,0,none⟩,c1,c2,c3,c4,c5,c6,c7,c8⟩,u4,v7,(u8.set t (.slice A9 (R++[F0]).length d9)),(.slice (some ⟨bg,og,none⟩) (allGrants n).length cg),(.slice (some ⟨bt,ot,none⟩) (stTs n).length co),(.slice Ae (enteringN n).length ce),(.slice (some ⟨bm,om,none⟩) (stMs n).length cm),allGrants n,stTs n,enteringN n,stMs n⟩ { x with arrs:=x.arrs.set t (R++[F0]) } W10):=Lib.hid (by
          have hh:=(HSz.out).setArr (g:=g8) (k:=t) (u:=.slice A9 (R++[F0]).length d9) (y:=R++[F0]) rfl HTL.out (by rw[show vr u8 t=.slice At R.length ct from HV.out];exact hg9) H9 (by rw[show vr u8 t=.slice At R.length ct from HV.out];exact ha9)
          rw[e10,←hl9]
          exact hh)
         have HG5:Hid (GB W10 wp.heap.size g):=Lib.hid (by rw[e10];exact(HGz.out.grown hg9 HRow.out).far (HBO.out.grown hg9 HRow.out) (by decide) _ _)
         have hz10:wz.heap.size≤W10.heap.size:=by rw[e10];simp only[szs];exact hg9.size
         try rw[hl9]
         rw[←e10]
         clear e10 k1 k2 hg9 hg9r H9 ha9 m0 m1 m2 m3 m4 cl1 cl2
         obtain⟨b0,b1,b2,bl⟩:=HG5.out.cells
         have z6:W10.cell? ⟨bx,6,none⟩=some (.slice (some ⟨g5,0,none⟩) n.owners.length c5):=HS5.out.bt.box.get 6
         have zx:bx<W10.heap.size:=HS5.out.bt.lt
         have i3:(at_:Int)<(n.owners.length:Int):=by have:=HAT.out;omega
         have i4:(0:Int)≤(at_:Int):=by omega
         have i5:(0:Int)≤5*g.node+g.port:=by omega
         have i6:5*g.node+g.port<(n.turns.length:Int):=by omega
         have hokl:at_<x.owners.length:=by have:=HLen.out.o;omega
         have htkl:tn<x.turns.length:=by have:=HLen.out.t;have:=HTNN.out;omega
         have hpos:0<x.owners.length:=by omega
         have nz:¬ wp.heap.size=g5:=by have:=(HTop.out g5 (.inr (.inl rfl))).2;omega
         have nm:¬ bm=g5:=bm_ne5 HS5.out rfl rfl hpos
         have n6:¬ bx=g6:=bx_ne6 HS5.out rfl (by show 0<x.turns.length;omega)
         have n6b:¬ wp.heap.size=g6:=by have:=(HTop.out g6 (.inr (.inr (.inl rfl)))).2;omega
         go_wp2_with fail
         refine wp_region_far (W10) (by kernel_rfl) (by kernel_rfl) bel ?_
         have hqc:=far_cell (W10)
         have hqf:=far_frozen (W10)
         repeat (first|go_big_quiet_step ((go_at_call 128;exact far_same (Calls.says (impl_BufferAt g.node g.port (g.input % 2) _ a0 a15 p0' p4' mm0 mm1) (congrArg (Value.int .i64) HAT.out))))|quiet_step ((go_at_call 128;exact far_same (Calls.says (impl_BufferAt g.node g.port (g.input % 2) _ a0 a15 p0' p4' mm0 mm1) (congrArg (Value.int .i64) HAT.out)))))
         refine wpQuiet_nil ?_
         intro wq hbq
         clear hqc hqf
         obtain⟨hcq,hfq,hzq⟩:=bcell hbq
         try simp only[szs] at hzq
         have HS6:=Lib.hid (HS5.out.below hbq)
         have HG6:=Lib.hid (HG5.out.below hbq)
         obtain⟨d0,d1,d2,dl⟩:=HG6.out.cells
         obtain⟨o1,o2⟩:=ownI5 HS6.out.nx rfl hokl
         clear hcq hfq hzq b0 b1 b2 z6
         cases htl:F0.tail
         ·skip
          have mt:=(flC (Kd.R_rowX HS6.out.m).2.2 k hkm).2.2.2.2.2
          try dsimp only at mt
          rw[HMK.out,htl] at mt
          obtain⟨W7,e7⟩:∃ z,z=wq.setCell ⟨g5,at_,none⟩ (.int .i64 (g.input / 2)):=⟨_,rfl⟩
          have HS7:Hid (ST w lo bx n ⟨⟨a1,a2,a3,some ⟨g4,0,none⟩,some ⟨g5,0,none⟩,some ⟨g6,0,none⟩,some ⟨g7,0,none⟩,some ⟨g8,0,none⟩,c1,c2,c3,c4,c5,c6,c7,c8⟩,u4,v7,(u8.set t (.slice A9 (R++[F0]).length d9)),(.slice (some ⟨bg,og,none⟩) (allGrants n).length cg),(.slice (some ⟨bt,ot,none⟩) (stTs n).length co),(.slice Ae (enteringN n).length ce),(.slice (some ⟨bm,om,none⟩) (stMs n).length cm),allGrants n,stTs n,enteringN n,stMs n⟩ { x with arrs:=x.arrs.set t (R++[F0]),owners:=x.owners.set at_ (g.input / 2) } W7):=Lib.hid (by rw[e7];exact HS6.out.setOwner (g:=g5) (k:=at_) rfl hokl (g.input / 2))
          have HG7:Hid (GB W7 wp.heap.size g):=Lib.hid (by rw[e7];exact HG6.out.far (blkI5 HS6.out.nx rfl hpos) (by decide) _ _)
          have z4:W7.cell? ⟨bx,7,none⟩=some (.slice (some ⟨g6,0,none⟩) n.turns.length c6):=HS7.out.bt.box.get 7
          have zx7:bx<W7.heap.size:=HS7.out.bt.lt
          obtain⟨t0,t1,t2,tl⟩:=HG7.out.cells
          obtain⟨o3,o4⟩:=ownI6 HS7.out.nx rfl htkl
          have HV9:Hid (pushG n x g={ x with arrs:=x.arrs.set t (R++[F0]),owners:=x.owners.set at_ (g.input / 2),turns:=x.turns.set tn ((g.input+1) % 10) }):=Lib.hid (push_eq4 H4.out HTN.out HAT.out HTNN.out HF0.out HRE.out (own_f HF0.out htl))
          go_wp2_with fail
          rw[←e7]
          clear e7 d0 d1 d2 o1 o2 mt htl
          rw[htn] at o3 o4
          have hw1:IntKind.i64.wrap (5*g.node)=5*g.node:=IntWalk.i64_in _ (by omega)
          have hw2:IntKind.i64.wrap (5*g.node+g.port)=5*g.node+g.port:=IntWalk.i64_in _ (by omega)
          have hw3:IntKind.i64.wrap (g.input+1)=g.input+1:=IntWalk.i64_in _ (by omega)
          go_region_held3 (fun w'=>KeepBut (W7) w' g6 none∧∀ bq oq,bq<(W7).heap.size→bq≠g6→some bq≠none→w'.cell? ⟨bq,oq,none⟩=(W7).cell? ⟨bq,oq,none⟩) (first|exact kb_of (by with_reducible repeat (first|assumption|exact KeepBut.refl _ _ _|refine kb_alloc _ ?_|refine kb_drew ?_|refine KeepBut.set_ ?_ _ _|refine kb_grown ?_ (by assumption)|refine kb_below ?_ (by assumption)))) ( first|fail)
          go_wp2
          go_roundw
          case rel=>
           refine⟨k+1,u4,(u8.set t (.slice A9 (R++[F0]).length d9)),by go_num,by omega,Lib.hid ?_⟩
           have hh:=HS7.out.setTurn (g:=g6) (k:=tn) rfl htkl ((g.input+1) % 10)
           rw[HNX.out,HV9.out]
           try rw[←htn]
           exact hh.below (bw_drew (bw_refl _))
          case measure=>simp[intOf];omega
         ·skip
          have mt:=(flC (Kd.R_rowX HS6.out.m).2.2 k hkm).2.2.2.2.2
          try dsimp only at mt
          rw[HMK.out,htl] at mt
          obtain⟨W7,e7⟩:∃ z,z=(wq.setCell ⟨g5,at_,none⟩ (.int .i64 (g.input / 2))).setCell ⟨g5,at_,none⟩ (.int .i64 (-1)):=⟨_,rfl⟩
          have HS7:Hid (ST w lo bx n ⟨⟨a1,a2,a3,some ⟨g4,0,none⟩,some ⟨g5,0,none⟩,some ⟨g6,0,none⟩,some ⟨g7,0,none⟩,some ⟨g8,0,none⟩,c1,c2,c3,c4,c5,c6,c7,c8⟩,u4,v7,(u8.set t (.slice A9 (R++[F0]).length d9)),(.slice (some ⟨bg,og,none⟩) (allGrants n).length cg),(.slice (some ⟨bt,ot,none⟩) (stTs n).length co),(.slice Ae (enteringN n).length ce),(.slice (some ⟨bm,om,none⟩) (stMs n).length cm),allGrants n,stTs n,enteringN n,stMs n⟩ { x with arrs:=x.arrs.set t (R++[F0]),owners:=x.owners.set at_ (-1) } W7):=Lib.hid (by rw[e7];exact own_twice HS6.out rfl hokl (g.input / 2) (-1))
          have HG7:Hid (GB W7 wp.heap.size g):=Lib.hid (by rw[e7];exact(HG6.out.far (blkI5 HS6.out.nx rfl hpos) (by decide) _ _).far ((blkI5 HS6.out.nx rfl hpos).set _ _ _) (by decide) _ _)
          have z4:W7.cell? ⟨bx,7,none⟩=some (.slice (some ⟨g6,0,none⟩) n.turns.length c6):=HS7.out.bt.box.get 7
          have zx7:bx<W7.heap.size:=HS7.out.bt.lt
          obtain⟨t0,t1,t2,tl⟩:=HG7.out.cells
          obtain⟨o3,o4⟩:=ownI6 HS7.out.nx rfl htkl
          have HV9:Hid (pushG n x g={ x with arrs:=x.arrs.set t (R++[F0]),owners:=x.owners.set at_ (-1),turns:=x.turns.set tn ((g.input+1) % 10) }):=Lib.hid (push_eq4 H4.out HTN.out HAT.out HTNN.out HF0.out HRE.out (own_t HF0.out htl))
          go_wp2_with fail
          rw[←e7]
          clear e7 d0 d1 d2 o1 o2 mt htl
          rw[htn] at o3 o4
          have hw1:IntKind.i64.wrap (5*g.node)=5*g.node:=IntWalk.i64_in _ (by omega)
          have hw2:IntKind.i64.wrap (5*g.node+g.port)=5*g.node+g.port:=IntWalk.i64_in _ (by omega)
          have hw3:IntKind.i64.wrap (g.input+1)=g.input+1:=IntWalk.i64_in _ (by omega)
          go_region_held3 (fun w'=>KeepBut (W7) w' g6 none∧∀ bq oq,bq<(W7).heap.size→bq≠g6→some bq≠none→w'.cell? ⟨bq,oq,none⟩=(W7).cell? ⟨bq,oq,none⟩) (first|exact kb_of (by with_reducible repeat (first|assumption|exact KeepBut.refl _ _ _|refine kb_alloc _ ?_|refine kb_drew ?_|refine KeepBut.set_ ?_ _ _|refine kb_grown ?_ (by assumption)|refine kb_below ?_ (by assumption)))) ( first|fail)
          go_wp2
          go_roundw
          case rel=>
           refine⟨k+1,u4,(u8.set t (.slice A9 (R++[F0]).length d9)),by go_num,by omega,Lib.hid ?_⟩
           have hh:=HS7.out.setTurn (g:=g6) (k:=tn) rfl htkl ((g.input+1) % 10)
           rw[HNX.out,HV9.out]
           try rw[←htn]
           exact hh.below (bw_drew (bw_refl _))
          case measure=>simp[intOf];omega
       ·obtain⟨t,ht⟩:∃ t:Nat,gTo n g=(t:Int):=⟨(gTo n g).toNat,by have:=HTO.out h4;omega⟩
        have tb:(t:Int)<(n.bufs.length:Int):=by have:=HTO.out h4;omega
        have t0:(0:Int)≤(t:Int):=by omega
        rw[HBH.out,if_neg h4,ht] at yq
        have y5q:=(hcq bx 5 yx).trans y5
        have H4:=Lib.hid h4
        have HTN:=Lib.hid ht.symm
        have htl0:t<n.bufs.length:=by omega
        have yxq:bx<wq.heap.size:=by omega
        have ybq:bt<wq.heap.size:=by omega
        clear h4 ht yt hcq hfq hzq y0 y1 y2 y9 y5
        obtain⟨wy,ey⟩:∃ z,z=wq:=⟨_,rfl⟩
        subst ey
        go_wp2_with fail
        refine wp_region_far (wy) (by kernel_rfl) (by kernel_rfl) bel ?_
        have hqc:=far_cell (wy)
        have hqf:=far_frozen (wy)
        repeat (first|go_big_quiet_step (fail)|quiet_step (fail))
        refine wpQuiet_nil ?_
        intro wq hbq
        clear hqc hqf
        obtain⟨hcq,hfq,hzq⟩:=bcell hbq
        try simp only[szs] at hzq
        replace hbz:=bw_then hbz hbq
        replace hb3z:=bw_then hb3z hbq
        obtain⟨wz,ez⟩:∃ z,z=wq:=⟨_,rfl⟩
        subst ez
        clear hcq hfq hzq yq y5q t0 yxq ybq
        go_wp2_with fail
        have HSz:=Lib.hid (HS.out.below hbz)
        have HGz:=Lib.hid (HG3.out.below hb3z)
        have hzz:=bw_size hbz
        have htl:t<x.bufs.length:=by have:=HLen.out.b;omega
        have hrow:=HSz.out.nx.row4 t htl
        try dsimp only at hrow
        obtain⟨At,ct,hv⟩:=Kd.R_slice hrow
        rw[hv] at hrow
        obtain⟨R,hR⟩:∃ R,rl x.bufs (t:Int)=R:=⟨_,rfl⟩
        rw[hR] at hrow hv
        have hRl:R.length≤100000000:=by have:=HRB.out t;rw[←hR];omega
        obtain⟨cl1,cl2⟩:=own_facts (x:=x) HSz.out.nx rfl htl hv
        obtain⟨rb,hrb⟩:∃ rb,(Value.slice At R.length ct).ownBlock=rb:=⟨_,rfl⟩
        have nb1:¬ some bx=rb:=fun e=>by obtain⟨inner,hin⟩:=Kd.R_own hrow;exact own_ne hin HSz.out.bt (by decide) (e.trans hrb.symm)
        have nb2:¬ some bm=rb:=fun e=>by
         have hap:=HSz.out.ma t (by simp[allR];omega)
         rw[all4 HSz.out.nx htl] at hap
         dsimp only at hap
         rw[hv] at hap
         rcases hap with h0|h0
         ·rw[hrb,←e] at h0;cases h0
         ·exact h0 (hrb.trans e.symm)
        have hBO:BlkT wz g4 145:=own_typed HSz.out.nx.bufs g4 rfl
        have nb3:¬ some g4=rb:=fun e=>by
         obtain⟨inner,hin⟩:=Kd.R_own hrow
         obtain⟨cs,hc⟩:=hBO
         exact own_ne hin hc (by decide) (e.trans hrb.symm)
        have nbm:¬ bm=g4:=fun e=>by
         obtain⟨inner,hin⟩:=Kd.R_own HSz.out.m
         obtain⟨cs,hc⟩:=hBO
         exact own_ne hin hc (by decide) (by rw[←e];rfl)
        obtain⟨mb,m0,m1,m2,m3,m4⟩:=flC (Kd.R_rowX HSz.out.m).2.2 k hkm
        try dsimp only at m0 m1 m2 m3 m4
        rw[HMK.out] at m0 m1 m2 m3 m4
        have HRow:=Lib.hid hrow
        have HV:=Lib.hid hv
        have HRE:=Lib.hid hR
        have HRB1:=Lib.hid hrb
        have HTL:=Lib.hid htl
        have HBO:=Lib.hid hBO
        have lwz:lo≤wz.heap.size:=Nat.le_trans HSz.out.low HSz.out.size
        have Owz:g4<wz.heap.size:=by have:=(HTop.out g4 (.inl rfl)).2;have:=HSz.out.size;omega
        have CL1:=Lib.hid cl1
        have CL2:=Lib.hid cl2
        clear hrow hv hR htl hBO hrb
        refine wp_region_tx (CK wz rb) (fun i=>[.pointer (some ⟨g4,t,none⟩),.pointer (some ⟨g4,t,none⟩),.pointer (some ⟨g4,t,none⟩),.slice At R.length ct,.slice (some ⟨bm,om,none⟩) (stMs n).length cm,.int .i64 (k:Int),.pointer (some ⟨bm,om+k*5,none⟩),.agg #[.int .i64 F0.pk,.int .i64 F0.dst,.int .i64 F0.cls,.bool F0.head,.bool F0.tail],undef,undef,.pointer (some ⟨g4,t,none⟩)].getD i undef) 11 [(0,.quiet),(1,.quiet),(2,.quiet),(3,.quiet),(4,.quiet),(5,.quiet),(6,.quiet),(7,.quiet),(8,.chain),(9,.chain),(10,.quiet)] (by kernel_rfl) (by kernel_rfl) (by kernel_rfl) (by kernel_rfl) (by kernel_rfl) (by kernel_rfl) (by kernel_rfl) (by kernel_rfl) CK.drew (fun W=>W=wz.drew) rfl ?_
        refine wpTx_q (some 106) rfl rfl (by rfl) (fun W hC=>?_) ?_
        ·clear hC
         go_simp
         try rfl
        try simp only[Act.put,nms]
        refine wpTx_q (some 107) rfl rfl (by rfl) (fun W hC=>?_) ?_
        ·clear hC
         go_simp
         try rfl
        try simp only[Act.put,nms]
        refine wpTx_q (some 108) rfl rfl (by rfl) (fun W hC=>?_) ?_
        ·clear hC
         go_simp
         try rfl
        try simp only[Act.put,nms]
        refine wpTx_q (some 109) rfl rfl (by rfl) (fun W hC=>?_) ?_
        ·have:=hC.cell Owz nb3 CL1.out
         clear hC
         go_simp
         try rfl
        try simp only[Act.put,nms]
        refine wpTx_q (some 110) rfl rfl (by rfl) (fun W hC=>?_) ?_
        ·clear hC
         go_simp
         try rfl
        try simp only[Act.put,nms]
        refine wpTx_q (some 111) rfl rfl (by rfl) (fun W hC=>?_) ?_
        ·clear hC
         go_simp
         try rfl
        try simp only[Act.put,nms]
        refine wpTx_q (some 112) rfl rfl (by rfl) (fun W hC=>?_) ?_
        ·clear hC
         go_simp
         try rfl
        try simp only[Act.put,nms]
        refine wpTx_q (some 113) rfl rfl (by rfl) (fun W hC=>?_) ?_
        ·have:=hC.cell mb nb2 m0
         have:=hC.cell mb nb2 m1
         have:=hC.cell mb nb2 m2
         have:=hC.cell mb nb2 m3
         have:=hC.cell mb nb2 m4
         clear hC
         go_simp
         try rfl
        try simp only[Act.put,nms]
        refine wpTx_c (some 114) rfl rfl (by rfl) () (fun _=>.slice (some ⟨wz.heap.size,0,none⟩) 1 1) (fun _ W=>W=wz.drew.alloc (.cells #[.int .i64 F0.pk,.int .i64 F0.dst,.int .i64 F0.cls,.bool F0.head,.bool F0.tail] 153)) (fun W hF hC=>?_) (fun _=>?_)
        ·subst hF
         refine LoOp.val (v:=.slice (some ⟨wz.heap.size,0,none⟩) 1 1) (w1:=wz.drew.alloc (.cells #[.int .i64 F0.pk,.int .i64 F0.dst,.int .i64 F0.cls,.bool F0.head,.bool F0.tail] 153)) ?_ ⟨(),rfl,hC.alloc _,rfl⟩
         go_simp
         try rfl
        try simp only[Act.put,nms]
        refine wpTx_c (some 115) rfl rfl (by rfl) ((none,0):Option Addr × Nat) (fun y=>.slice y.1 (R.length+1) y.2) (fun y W9=>kF.R 153 W9 lo (fun _=>True) (.slice y.1 (R++[F0]).length y.2) (R++[F0])∧wz.grownBy W9 (Value.slice At R.length ct).ownBlock∧Anew wz (.slice y.1 (R++[F0]).length y.2) (.slice At R.length ct)) (fun W hF hC=>?_) (fun y=>?_)
        ·subst hF
         refine LoOp.of_if (ops:=#[]) rfl rfl (by simp) (by rfl) (app_FgS (ops:=#[]) (W:=wz.drew) (B:=lo) (by rfl) (.tmp 109) (.tmp 114) rfl (.slice At R.length ct) R F0 rfl rfl (Kd.R_below HRow.out (bw_drew (bw_refl _))) lwz hRl ?_)
         intro v9 w9 H9 hg9 ha9
         obtain⟨A9,d9,rfl⟩:=Kd.R_slice H9
         have hg9r:=hg9
         rw[HRB1.out] at hg9r
         refine⟨(A9,d9),?_,CK.grown CK.drew hg9r,H9,⟨hg9.os,hg9.tape,hg9.output,hg9.size,hg9.block⟩,ha9⟩
         show Value.slice A9 (R++[F0]).length d9=.slice A9 (R.length+1) d9
         rw[List.length_append]
         rfl
        try simp only[Act.put,nms]
        refine wpTx_q (some 116) rfl rfl (by rfl) (fun W hC=>?_) ?_
        ·clear hC
         go_simp
         try rfl
        try simp only[Act.put,nms]
        refine wpTx_z (fun w9 hF hC=>?_)
        obtain⟨A9,d9⟩:=y
        obtain⟨H9,hg9,ha9⟩:=hF
        dsimp only at H9 ha9
        have hg9r:=hg9
        have k1:=hC.cell Owz nb3 CL1.out
        have k2:=hC.frozen Owz nb3 CL2.out
        clear hC
        refine⟨_,rfl,by rfl,?_⟩
        go_simp
        all_goals
         have hl9:(R++[F0]).length=R.length+1:=by simp
         obtain⟨W10,e10⟩:∃ z,z=w9.setCell ⟨g4,t,none⟩ (.slice A9 (R.length+1) d9):=⟨_,rfl⟩
         have HS5:Hid (ST w lo bx n ⟨⟨a1,a2,a3,some ⟨g4,0,none⟩,some ⟨g5,0,none⟩,some ⟨g6,0,none⟩,some ⟨g7,0,none⟩,some ⟨g8,0,none⟩,c1,c2,c3,c4,c5,c6,c7,c8⟩,(u4.set t (.slice A9 (R++[F0]).length d9)),v7,u8,(.slice (some ⟨bg,og,none⟩) (allGrants n).length cg),(.slice (some ⟨bt,ot,none⟩) (stTs n).length co),(.slice Ae (enteringN n).length ce),(.slice (some ⟨bm,om,none⟩) (stMs n).length cm),allGrants n,stTs n,enteringN n,stMs n⟩ { x with bufs:=x.bufs.set t (R++[F0]) } W10):=Lib.hid (by
          have hh:=(HSz.out).setBuf (g:=g4) (k:=t) (u:=.slice A9 (R++[F0]).length d9) (y:=R++[F0]) rfl HTL.out (by rw[show vr u4 t=.slice At R.length ct from HV.out];exact hg9) H9 (by rw[show vr u4 t=.slice At R.length ct from HV.out];exact ha9)
          rw[e10,←hl9]
          exact hh)
         have HG5:Hid (GB W10 wp.heap.size g):=Lib.hid (by rw[e10];exact(HGz.out.grown hg9 HRow.out).far (HBO.out.grown hg9 HRow.out) (by decide) _ _)
         have hz10:wz.heap.size≤W10.heap.size:=by rw[e10];simp only[szs];exact hg9.size
         try rw[hl9]
         rw[←e10]
         clear e10 k1 k2 hg9 hg9r H9 ha9 m0 m1 m2 m3 m4 cl1 cl2
         obtain⟨b0,b1,b2,bl⟩:=HG5.out.cells
         have z6:W10.cell? ⟨bx,6,none⟩=some (.slice (some ⟨g5,0,none⟩) n.owners.length c5):=HS5.out.bt.box.get 6
         have zx:bx<W10.heap.size:=HS5.out.bt.lt
         have i3:(at_:Int)<(n.owners.length:Int):=by have:=HAT.out;omega
         have i4:(0:Int)≤(at_:Int):=by omega
         have i5:(0:Int)≤5*g.node+g.port:=by omega
         have i6:5*g.node+g.port<(n.turns.length:Int):=by omega
         have hokl:at_<x.owners.length:=by have:=HLen.out.o;omega
         have htkl:tn<x.turns.length:=by have:=HLen.out.t;have:=HTNN.out;omega
         have hpos:0<x.owners.length:=by omega
         have nz:¬ wp.heap.size=g5:=by have:=(HTop.out g5 (.inr (.inl rfl))).2;omega
         have nm:¬ bm=g5:=bm_ne5 HS5.out rfl rfl hpos
         have n6:¬ bx=g6:=bx_ne6 HS5.out rfl (by show 0<x.turns.length;omega)
         have n6b:¬ wp.heap.size=g6:=by have:=(HTop.out g6 (.inr (.inr (.inl rfl)))).2;omega
         go_wp2_with fail
         refine wp_region_far (W10) (by kernel_rfl) (by kernel_rfl) bel ?_
         have hqc:=far_cell (W10)
         have hqf:=far_frozen (W10)
         repeat (first|go_big_quiet_step ((go_at_call 128;exact far_same (Calls.says (impl_BufferAt g.node g.port (g.input % 2) _ a0 a15 p0' p4' mm0 mm1) (congrArg (Value.int .i64) HAT.out))))|quiet_step ((go_at_call 128;exact far_same (Calls.says (impl_BufferAt g.node g.port (g.input % 2) _ a0 a15 p0' p4' mm0 mm1) (congrArg (Value.int .i64) HAT.out)))))
         refine wpQuiet_nil ?_
         intro wq hbq
         clear hqc hqf
         obtain⟨hcq,hfq,hzq⟩:=bcell hbq
         try simp only[szs] at hzq
         have HS6:=Lib.hid (HS5.out.below hbq)
         have HG6:=Lib.hid (HG5.out.below hbq)
         obtain⟨d0,d1,d2,dl⟩:=HG6.out.cells
         obtain⟨o1,o2⟩:=ownI5 HS6.out.nx rfl hokl
         clear hcq hfq hzq b0 b1 b2 z6
         cases htl:F0.tail
         ·skip
          have mt:=(flC (Kd.R_rowX HS6.out.m).2.2 k hkm).2.2.2.2.2
          try dsimp only at mt
          rw[HMK.out,htl] at mt
          obtain⟨W7,e7⟩:∃ z,z=wq.setCell ⟨g5,at_,none⟩ (.int .i64 (g.input / 2)):=⟨_,rfl⟩
          have HS7:Hid (ST w lo bx n ⟨⟨a1,a2,a3,some ⟨g4,0,none⟩,some ⟨g5,0,none⟩,some ⟨g6,0,none⟩,some ⟨g7,0,none⟩,some ⟨g8,0,none⟩,c1,c2,c3,c4,c5,c6,c7,c8⟩,(u4.set t (.slice A9 (R++[F0]).length d9)),v7,u8,(.slice (some ⟨bg,og,none⟩) (allGrants n).length cg),(.slice (some ⟨bt,ot,none⟩) (stTs n).length co),(.slice Ae (enteringN n).length ce),(.slice (some ⟨bm,om,none⟩) (stMs n).length cm),allGrants n,stTs n,enteringN n,stMs n⟩ { x with bufs:=x.bufs.set t (R++[F0]),owners:=x.owners.set at_ (g.input / 2) } W7):=Lib.hid (by rw[e7];exact HS6.out.setOwner (g:=g5) (k:=at_) rfl hokl (g.input / 2))
          have HG7:Hid (GB W7 wp.heap.size g):=Lib.hid (by rw[e7];exact HG6.out.far (blkI5 HS6.out.nx rfl hpos) (by decide) _ _)
          have z4:W7.cell? ⟨bx,7,none⟩=some (.slice (some ⟨g6,0,none⟩) n.turns.length c6):=HS7.out.bt.box.get 7
          have zx7:bx<W7.heap.size:=HS7.out.bt.lt
          obtain⟨t0,t1,t2,tl⟩:=HG7.out.cells
          obtain⟨o3,o4⟩:=ownI6 HS7.out.nx rfl htkl
          have HV9:Hid (pushG n x g={ x with bufs:=x.bufs.set t (R++[F0]),owners:=x.owners.set at_ (g.input / 2),turns:=x.turns.set tn ((g.input+1) % 10) }):=Lib.hid (push_eq H4.out HTN.out HAT.out HTNN.out HF0.out HRE.out (own_f HF0.out htl))
          go_wp2_with fail
          rw[←e7]
          clear e7 d0 d1 d2 o1 o2 mt htl
          rw[htn] at o3 o4
          have hw1:IntKind.i64.wrap (5*g.node)=5*g.node:=IntWalk.i64_in _ (by omega)
          have hw2:IntKind.i64.wrap (5*g.node+g.port)=5*g.node+g.port:=IntWalk.i64_in _ (by omega)
          have hw3:IntKind.i64.wrap (g.input+1)=g.input+1:=IntWalk.i64_in _ (by omega)
          go_region_held3 (fun w'=>KeepBut (W7) w' g6 none∧∀ bq oq,bq<(W7).heap.size→bq≠g6→some bq≠none→w'.cell? ⟨bq,oq,none⟩=(W7).cell? ⟨bq,oq,none⟩) (first|exact kb_of (by with_reducible repeat (first|assumption|exact KeepBut.refl _ _ _|refine kb_alloc _ ?_|refine kb_drew ?_|refine KeepBut.set_ ?_ _ _|refine kb_grown ?_ (by assumption)|refine kb_below ?_ (by assumption)))) ( first|fail)
          go_wp2
          go_roundw
          case rel=>
           refine⟨k+1,(u4.set t (.slice A9 (R++[F0]).length d9)),u8,by go_num,by omega,Lib.hid ?_⟩
           have hh:=HS7.out.setTurn (g:=g6) (k:=tn) rfl htkl ((g.input+1) % 10)
           rw[HNX.out,HV9.out]
           try rw[←htn]
           exact hh.below (bw_drew (bw_refl _))
          case measure=>simp[intOf];omega
         ·skip
          have mt:=(flC (Kd.R_rowX HS6.out.m).2.2 k hkm).2.2.2.2.2
          try dsimp only at mt
          rw[HMK.out,htl] at mt
          obtain⟨W7,e7⟩:∃ z,z=(wq.setCell ⟨g5,at_,none⟩ (.int .i64 (g.input / 2))).setCell ⟨g5,at_,none⟩ (.int .i64 (-1)):=⟨_,rfl⟩
          have HS7:Hid (ST w lo bx n ⟨⟨a1,a2,a3,some ⟨g4,0,none⟩,some ⟨g5,0,none⟩,some ⟨g6,0,none⟩,some ⟨g7,0,none⟩,some ⟨g8,0,none⟩,c1,c2,c3,c4,c5,c6,c7,c8⟩,(u4.set t (.slice A9 (R++[F0]).length d9)),v7,u8,(.slice (some ⟨bg,og,none⟩) (allGrants n).length cg),(.slice (some ⟨bt,ot,none⟩) (stTs n).length co),(.slice Ae (enteringN n).length ce),(.slice (some ⟨bm,om,none⟩) (stMs n).length cm),allGrants n,stTs n,enteringN n,stMs n⟩ { x with bufs:=x.bufs.set t (R++[F0]),owners:=x.owners.set at_ (-1) } W7):=Lib.hid (by rw[e7];exact own_twice HS6.out rfl hokl (g.input / 2) (-1))
          have HG7:Hid (GB W7 wp.heap.size g):=Lib.hid (by rw[e7];exact(HG6.out.far (blkI5 HS6.out.nx rfl hpos) (by decide) _ _).far ((blkI5 HS6.out.nx rfl hpos).set _ _ _) (by decide) _ _)
          have z4:W7.cell? ⟨bx,7,none⟩=some (.slice (some ⟨g6,0,none⟩) n.turns.length c6):=HS7.out.bt.box.get 7
          have zx7:bx<W7.heap.size:=HS7.out.bt.lt
          obtain⟨t0,t1,t2,tl⟩:=HG7.out.cells
          obtain⟨o3,o4⟩:=ownI6 HS7.out.nx rfl htkl
          have HV9:Hid (pushG n x g={ x with bufs:=x.bufs.set t (R++[F0]),owners:=x.owners.set at_ (-1),turns:=x.turns.set tn ((g.input+1) % 10) }):=Lib.hid (push_eq H4.out HTN.out HAT.out HTNN.out HF0.out HRE.out (own_t HF0.out htl))
          go_wp2_with fail
          rw[←e7]
          clear e7 d0 d1 d2 o1 o2 mt htl
          rw[htn] at o3 o4
          have hw1:IntKind.i64.wrap (5*g.node)=5*g.node:=IntWalk.i64_in _ (by omega)
          have hw2:IntKind.i64.wrap (5*g.node+g.port)=5*g.node+g.port:=IntWalk.i64_in _ (by omega)
          have hw3:IntKind.i64.wrap (g.input+1)=g.input+1:=IntWalk.i64_in _ (by omega)
          go_region_held3 (fun w'=>KeepBut (W7) w' g6 none∧∀ bq oq,bq<(W7).heap.size→bq≠g6→some bq≠none→w'.cell? ⟨bq,oq,none⟩=(W7).cell? ⟨bq,oq,none⟩) (first|exact kb_of (by with_reducible repeat (first|assumption|exact KeepBut.refl _ _ _|refine kb_alloc _ ?_|refine kb_drew ?_|refine KeepBut.set_ ?_ _ _|refine kb_grown ?_ (by assumption)|refine kb_below ?_ (by assumption)))) ( first|fail)
          go_wp2
          go_roundw
          case rel=>
           refine⟨k+1,(u4.set t (.slice A9 (R++[F0]).length d9)),u8,by go_num,by omega,Lib.hid ?_⟩
           have hh:=HS7.out.setTurn (g:=g6) (k:=tn) rfl htkl ((g.input+1) % 10)
           rw[HNX.out,HV9.out]
           try rw[←htn]
           exact hh.below (bw_drew (bw_refl _))
          case measure=>simp[intOf];omega
      ·obtain rfl:k=(allGrants n).length:=by omega
       have hx0:pushL n (afterPop n) ((allGrants n).take (allGrants n).length)=enterL n (afterPush n) ((enteringN n).take 0):=by rw[List.take_length];rfl
       rw[hx0] at HS
       clear hx0 hlt zz zl xl
       go_wp2
       go_loopw [160] (fun i wr=>∃ (k:Nat) (u4 u7:List Value),i=.int .i64 k∧k≤(enteringN n).length∧Hid (ST w lo bx n ⟨⟨a1,a2,a3,some ⟨g4,0,none⟩,some ⟨g5,0,none⟩,some ⟨g6,0,none⟩,some ⟨g7,0,none⟩,some ⟨g8,0,none⟩,c1,c2,c3,c4,c5,c6,c7,c8⟩,u4,u7,u8,(.slice Ag (allGrants n).length cg),(.slice Ao (stTs n).length co),(.slice Ae (enteringN n).length ce),(.slice Am (stMs n).length cm),allGrants n,stTs n,enteringN n,stMs n⟩ (enterL n (afterPush n) ((enteringN n).take k)) wr)) (fun i _=>(enteringN n).length - (intOf i).toNat)
       case atStart=>exact⟨0,u4,v7,rfl,Nat.zero_le _,Lib.hid HS.out⟩
       case round=>
        clear HS
        obtain⟨k,u4,u7,rfl,hk,HS⟩:=hrel
        obtain⟨wp,ewp⟩:∃ z,z=wr:=⟨_,rfl⟩
        subst ewp
        have zz:=HS.out.size
        have zl:=HS.out.low
        have xl:=HS.out.bt.lt
        by_cases hlt:k<(enteringN n).length
        ·have k0:(0:Int)≤(k:Int):=by omega
         have i0:(k:Int)<((enteringN n).length:Int):=by omega
         obtain⟨a,ea,al,hen⟩:=enter_at hlt
         have hnew:=enter_new hlt
         have hnx:=enterL_next n (afterPush n) k hlt
         have hsb:=src_buf OK.out a al
         rw[ea] at hnew hnx
         obtain⟨x,hx⟩:∃ x,enterL n (afterPush n) ((enteringN n).take k)=x:=⟨_,rfl⟩
         have hsr:rl x.srcs (a:Int)=rl n.srcs (a:Int):=by
          rw[←hx,enterL_srcs (by omega) _ _ hnew]
          unfold afterPush
          rw[pushL_srcs]
          rfl
         have hlen:Lens n x:=by rw[←hx];exact Lens.enter _ _ ((Lens.pop n).pushL (allGrants n) (m:=n))
         have HRB:Hid (∀ t:Nat,(rl x.bufs (t:Int)).length≤90000000):=Lib.hid (fun t=>by
          have h1:=enterL_rows n t ((enteringN n).take k) (afterPush n)
          rw[hx,List.length_take] at h1
          have h2:=(pushL_rows n t (allGrants n) (afterPop n)).1
          have h3:(rl (afterPop n).bufs (t:Int)).length=(rl (popL n.bufs (allGrants n)) (t:Int)).length:=rfl
          have h4:(rl (afterPush n).bufs (t:Int)).length=(rl (pushL n (afterPop n) (allGrants n)).bufs (t:Int)).length:=rfl
          have h5:=pop_rows t (allGrants n) n.bufs
          have h6:=rl_bound HR.out.h9 t
          omega)
         rw[hx] at HS hnx
         simp only[enters,Bool.and_eq_true,decide_eq_true_eq] at hen
         obtain⟨_,a15,_,hcl⟩:=hsb
         obtain⟨d0,d1,d2⟩:=hcl hen.1
         have hpos:=hen.1
         obtain⟨F0,hF0⟩:∃ F0,rf (rl n.srcs (a:Int)) 0=F0:=⟨_,rfl⟩
         rw[hF0] at d0 d1 d2
         have HF0:=Lib.hid hF0
         obtain⟨t,ht⟩:∃ t:Nat,10*(a:Int)+8+F0.cls=(t:Int):=⟨(10*(a:Int)+8+F0.cls).toNat,by omega⟩
         have HT4:Hid (10*(a:Int)+2*4+F0.cls=(t:Int)):=Lib.hid (by omega)
         have HT8:Hid (10*(a:Int)+8+F0.cls=(t:Int)):=Lib.hid ht
         have tb:(t:Int)<(n.bufs.length:Int):=by omega
         have t0:(0:Int)≤(t:Int):=by omega
         have htl0:t<n.bufs.length:=by omega
         have ab:(a:Int)<(n.srcs.length:Int):=by omega
         have an0:(0:Int)≤(a:Int):=by omega
         -- the entering row and the source
         obtain⟨be,oe,eAe,hbe,hce⟩:=rdI_at (Kd.R_rowX HS.out.e).2.2 k hlt
         try dsimp only at eAe
         have he0:=hce k hlt
         rw[ea] at he0
         subst eAe
         have hsl:a<x.srcs.length:=by have:=hlen.s;omega
         have hrow:=HS.out.nx.row7 a hsl
         try dsimp only at hrow
         rw[hsr] at hrow
         obtain⟨As,cs,hv7⟩:=Kd.R_slice hrow
         rw[hv7] at hrow
         obtain⟨_,hlc,hCs⟩:=Kd.R_rowX hrow
         obtain⟨rs,ro,eAs,hrs,f0,f1,f2,f3,f4⟩:=rdFl_0 hCs hpos
         rw[hF0] at f0 f1 f2 f3 f4
         obtain⟨s1,s2⟩:=own_facts7 (x:=x) HS.out.nx rfl hsl hv7
         have x8:wp.cell? ⟨bx,8,none⟩=some (.slice (some ⟨g7,0,none⟩) n.srcs.length c7):=HS.out.bt.box.get 8
         have lp:(0:Int)<((rl n.srcs (a:Int)).length:Int):=by omega
         obtain⟨D,hD⟩:∃ D,(rl n.srcs (a:Int)).drop 1=D:=⟨_,rfl⟩
         have hDl:D.length=(rl n.srcs (a:Int)).length - 1:=by rw[←hD,List.length_drop]
         have hDn:D.length≤10000000:=by have:=HR.out.h10 _ (rl_mem al);omega
         obtain⟨A2,hA2⟩:∃ A2,(if cs=1 then As else As.map (·.add 5))=A2:=⟨_,rfl⟩
         have hcut:∀ W:World,(Instr.slice 145 (.slice As (rl n.srcs (a:Int)).length cs) (some (.int .i64 1)) none none).run Tryz.prog W=.ok (.slice A2 D.length (cs - 1)) W:=fun W=>by rw[cut_fromF As _ cs (by omega) W,hA2,hDl]
         have HD:Hid (∀ W,kF.C W As (rl n.srcs (a:Int)).length (rl n.srcs (a:Int))→kF.C W A2 D.length D):=Lib.hid (fun W h=>by
          have:=Kd.C_drop h (m:=1) (by omega) hlc
          rw[hD,show 1*kF.sz=5 from rfl,hA2] at this
          exact this)
         have HEB:Hid (enterB n x (a:Int)={ x with bufs:=x.bufs.set t (rl x.bufs (t:Int)++[F0]),srcs:=x.srcs.set a D }):=Lib.hid (by
          unfold enterB eTo
          rw[hF0,ht,hsr,hD]
          rfl)
         have HNX:=Lib.hid hnx
         have HLen:=Lib.hid hlen
         have HV7:=Lib.hid hv7
         have HSR:=Lib.hid hsr
         have HSL:=Lib.hid hsl
         clear hen hnew hnx hcl hce hrow hlc hCs hD hDl hA2 hv7 hsr hlen hF0 ht hx hsl
         subst eAs
         obtain⟨W3,hW3⟩:∃ W3,W3=wp.alloc (.cells #[.int .i64 F0.pk,.int .i64 F0.dst,.int .i64 F0.cls,.bool F0.head,.bool F0.tail] 153):=⟨_,rfl⟩
         have HFB:Hid (W3.heap[wp.heap.size]?=some (.cells #[.int .i64 F0.pk,.int .i64 F0.dst,.int .i64 F0.cls,.bool F0.head,.bool F0.tail] 153 (0,0))):=Lib.hid (by subst hW3;exact blk_new wp _)
         have hb3:Below wp.heap.size wp W3:=by subst hW3;exact bw_alloc _ (bw_refl wp)
         have HS3:=Lib.hid (HS.out.below hb3)
         have hz3:=bw_size hb3
         go_wp2_with ((go_at_call 128;refine(Calls.says (impl_BufferAt (a:Int) 4 F0.cls _ an0 a15 (by omega) (by omega) d0 d1) (congrArg (Value.int .i64) HT4.out)).mono ?_;rintro e w' ⟨rfl,rfl⟩))
         rw[←hW3]
         clear hW3 he0 f0 f1 f2 f3 f4 s1 s2 x8
         have htl:t<x.bufs.length:=by have:=HLen.out.b;omega
         have hrow:=HS3.out.nx.row4 t htl
         try dsimp only at hrow
         obtain⟨At,ct,hv⟩:=Kd.R_slice hrow
         rw[hv] at hrow
         obtain⟨R,hR⟩:∃ R,rl x.bufs (t:Int)=R:=⟨_,rfl⟩
         rw[hR] at hrow hv
         have hRl:R.length≤100000000:=by have:=HRB.out t;rw[←hR];omega
         obtain⟨cl1,cl2⟩:=own_facts (x:=x) HS3.out.nx rfl htl hv
         obtain⟨rb,hrb⟩:∃ rb,(Value.slice At R.length ct).ownBlock=rb:=⟨_,rfl⟩
         have nb1:¬ some bx=rb:=fun e=>by obtain⟨inner,hin⟩:=Kd.R_own hrow;exact own_ne hin HS3.out.bt (by decide) (e.trans hrb.symm)
         have nb2:¬ some wp.heap.size=rb:=fun e=>by
          have h7:=HS.out.nx.row4 t htl
          try dsimp only at h7
          rw[hv] at h7
          have:=Kd.R_lt h7 wp.heap.size (by rw[hrb];exact e.symm)
          omega
         have hBO:BlkT W3 g4 145:=own_typed HS3.out.nx.bufs g4 rfl
         have nb3:¬ some g4=rb:=fun e=>by
          obtain⟨inner,hin⟩:=Kd.R_own hrow
          obtain⟨cs,hc⟩:=hBO
          exact own_ne hin hc (by decide) (e.trans hrb.symm)
         have nf4:¬ wp.heap.size=g4:=by have:=(HTop.out g4 (.inl rfl)).2;omega
         have nf7:¬ wp.heap.size=g7:=by have:=(HTop.out g7 (.inr (.inr (.inr (.inl rfl))))).2;omega
         have m0:W3.cell? ⟨wp.heap.size,0,none⟩=some (.int .i64 F0.pk):=blk_cell HFB.out 0
         have m1:W3.cell? ⟨wp.heap.size,1,none⟩=some (.int .i64 F0.dst):=blk_cell HFB.out 1
         have m2:W3.cell? ⟨wp.heap.size,2,none⟩=some (.int .i64 F0.cls):=blk_cell HFB.out 2
         have m3:W3.cell? ⟨wp.heap.size,3,none⟩=some (.bool F0.head):=blk_cell HFB.out 3
         have m4:W3.cell? ⟨wp.heap.size,4,none⟩=some (.bool F0.tail):=blk_cell HFB.out 4
         have fl3:wp.heap.size<W3.heap.size:=blk_lt HFB.out
         have y5:W3.cell? ⟨bx,5,none⟩=some (.slice (some ⟨g4,0,none⟩) n.bufs.length c4):=HS3.out.bt.box.get 5
         have yx:bx<W3.heap.size:=HS3.out.bt.lt
         have HRow:=Lib.hid hrow
         have HV:=Lib.hid hv
         have HRE:=Lib.hid hR
         have HRB1:=Lib.hid hrb
         have HTL:=Lib.hid htl
         have lwz:lo≤W3.heap.size:=Nat.le_trans HS3.out.low HS3.out.size
         have Owz:g4<W3.heap.size:=by have:=(HTop.out g4 (.inl rfl)).2;omega
         have nbx4:¬ bx=g4:=by
          obtain⟨cs,hc⟩:=hBO
          exact blk_ne HS3.out.bt hc (by decide)
         have nbx7:¬ bx=g7:=by
          obtain⟨cs,hc⟩:=own_typed HS3.out.nx.srcs g7 rfl
          exact blk_ne HS3.out.bt hc (by decide)
         have CL1:=Lib.hid cl1
         have CL2:=Lib.hid cl2
         clear hrow hv hR htl hBO hrb
         refine wp_region_tx (CK W3 rb) (fun i=>[.pointer (some ⟨bx,0,none⟩),.pointer (some ⟨bx,0,none⟩),.pointer (some ⟨bx,5,none⟩),.slice (some ⟨g4,0,none⟩) n.bufs.length c4,.int .i64 (t:Int),.pointer (some ⟨bx,0,none⟩),.pointer (some ⟨bx,0,none⟩),.pointer (some ⟨bx,5,none⟩),.slice (some ⟨g4,0,none⟩) n.bufs.length c4,.int .i64 (t:Int),.pointer (some ⟨g4,t,none⟩),.slice At R.length ct,.agg #[.int .i64 F0.pk,.int .i64 F0.dst,.int .i64 F0.cls,.bool F0.head,.bool F0.tail],undef,undef,.pointer (some ⟨g4,t,none⟩)].getD i undef) 16 [(0,.quiet),(1,.quiet),(2,.quiet),(3,.quiet),(4,.quiet),(5,.quiet),(6,.quiet),(7,.quiet),(8,.quiet),(9,.quiet),(10,.quiet),(11,.quiet),(12,.quiet),(13,.chain),(14,.chain),(15,.quiet)] (by kernel_rfl) (by kernel_rfl) (by kernel_rfl) (by kernel_rfl) (by kernel_rfl) (by kernel_rfl) (by kernel_rfl) (by kernel_rfl) CK.drew (fun W=>W=W3.drew) rfl ?_
         refine wpTx_q (some 177) rfl rfl (by rfl) (fun W hC=>?_) ?_
         ·clear hC
          go_simp
          try rfl
         try simp only[Act.put,nms]
         refine wpTx_q (some 178) rfl rfl (by rfl) (fun W hC=>?_) ?_
         ·clear hC
          go_simp
          try rfl
         try simp only[Act.put,nms]
         refine wpTx_q (some 179) rfl rfl (by rfl) (fun W hC=>?_) ?_
         ·clear hC
          go_simp
          try rfl
         try simp only[Act.put,nms]
         refine wpTx_q (some 180) rfl rfl (by rfl) (fun W hC=>?_) ?_
         ·have:=hC.cell yx nb1 y5
          clear hC
          go_simp
          try rfl
         try simp only[Act.put,nms]
         refine wpTx_q (some 181) rfl rfl (by rfl) (fun W hC=>?_) ?_
         ·clear hC
          go_simp
          try rfl
         try simp only[Act.put,nms]
         refine wpTx_q (some 182) rfl rfl (by rfl) (fun W hC=>?_) ?_
         ·clear hC
          go_simp
          try rfl
         try simp only[Act.put,nms]
         refine wpTx_q (some 183) rfl rfl (by rfl) (fun W hC=>?_) ?_
         ·clear hC
          go_simp
          try rfl
         try simp only[Act.put,nms]
         refine wpTx_q (some 184) rfl rfl (by rfl) (fun W hC=>?_) ?_
         ·clear hC
          go_simp
          try rfl
         try simp only[Act.put,nms]
         refine wpTx_q (some 185) rfl rfl (by rfl) (fun W hC=>?_) ?_
         ·have:=hC.cell yx nb1 y5
          clear hC
          go_simp
          try rfl
         try simp only[Act.put,nms]
         refine wpTx_q (some 186) rfl rfl (by rfl) (fun W hC=>?_) ?_
         ·clear hC
          go_simp
          try rfl
         try simp only[Act.put,nms]
         refine wpTx_q (some 187) rfl rfl (by rfl) (fun W hC=>?_) ?_
         ·clear hC
          go_simp
          try rfl
         try simp only[Act.put,nms]
         refine wpTx_q (some 188) rfl rfl (by rfl) (fun W hC=>?_) ?_
         ·have:=hC.cell Owz nb3 CL1.out
          clear hC
          go_simp
          try rfl
         try simp only[Act.put,nms]
         refine wpTx_q (some 189) rfl rfl (by rfl) (fun W hC=>?_) ?_
         ·have:=hC.cell fl3 nb2 m0
          have:=hC.cell fl3 nb2 m1
          have:=hC.cell fl3 nb2 m2
          have:=hC.cell fl3 nb2 m3
          have:=hC.cell fl3 nb2 m4
          clear hC
          go_simp
          try rfl
         try simp only[Act.put,nms]
         refine wpTx_c (some 190) rfl rfl (by rfl) () (fun _=>.slice (some ⟨W3.heap.size,0,none⟩) 1 1) (fun _ W=>W=W3.drew.alloc (.cells #[.int .i64 F0.pk,.int .i64 F0.dst,.int .i64 F0.cls,.bool F0.head,.bool F0.tail] 153)) (fun W hF hC=>?_) (fun _=>?_)
         ·subst hF
          refine LoOp.val (v:=.slice (some ⟨W3.heap.size,0,none⟩) 1 1) (w1:=W3.drew.alloc (.cells #[.int .i64 F0.pk,.int .i64 F0.dst,.int .i64 F0.cls,.bool F0.head,.bool F0.tail] 153)) ?_ ⟨(),rfl,hC.alloc _,rfl⟩
          go_simp
          try rfl
         try simp only[Act.put,nms]
         refine wpTx_c (some 191) rfl rfl (by rfl) ((none,0):Option Addr × Nat) (fun y=>.slice y.1 (R.length+1) y.2) (fun y W9=>kF.R 153 W9 lo (fun _=>True) (.slice y.1 (R++[F0]).length y.2) (R++[F0])∧W3.grownBy W9 (Value.slice At R.length ct).ownBlock∧Anew W3 (.slice y.1 (R++[F0]).length y.2) (.slice At R.length ct)) (fun W hF hC=>?_) (fun y=>?_)
         ·subst hF
          refine LoOp.of_if (ops:=#[]) rfl rfl (by simp) (by rfl) (app_FgS (ops:=#[]) (W:=W3.drew) (B:=lo) (by rfl) (.tmp 188) (.tmp 190) rfl (.slice At R.length ct) R F0 rfl rfl (Kd.R_below HRow.out (bw_drew (bw_refl _))) lwz hRl ?_)
          intro v9 w9 H9 hg9 ha9
          obtain⟨A9,d9,rfl⟩:=Kd.R_slice H9
          have hg9r:=hg9
          rw[HRB1.out] at hg9r
          refine⟨(A9,d9),?_,CK.grown CK.drew hg9r,H9,⟨hg9.os,hg9.tape,hg9.output,hg9.size,hg9.block⟩,ha9⟩
          show Value.slice A9 (R++[F0]).length d9=.slice A9 (R.length+1) d9
          rw[List.length_append]
          rfl
         try simp only[Act.put,nms]
         refine wpTx_q (some 192) rfl rfl (by rfl) (fun W hC=>?_) ?_
         ·clear hC
          go_simp
          try rfl
         try simp only[Act.put,nms]
         refine wpTx_z (fun w9 hF hC=>?_)
         obtain⟨A9,d9⟩:=y
         obtain⟨H9,hg9,ha9⟩:=hF
         dsimp only at H9 ha9
         have hg9r:=hg9
         have k1:=hC.cell Owz nb3 CL1.out
         have k2:=hC.frozen Owz nb3 CL2.out
         clear hC
         refine⟨_,rfl,by rfl,?_⟩
         go_simp
         all_goals
          have hl9:(R++[F0]).length=R.length+1:=by simp
          obtain⟨W10,e10⟩:∃ z,z=w9.setCell ⟨g4,t,none⟩ (.slice A9 (R.length+1) d9):=⟨_,rfl⟩
          have HS5:Hid (ST w lo bx n ⟨⟨a1,a2,a3,some ⟨g4,0,none⟩,some ⟨g5,0,none⟩,some ⟨g6,0,none⟩,some ⟨g7,0,none⟩,some ⟨g8,0,none⟩,c1,c2,c3,c4,c5,c6,c7,c8⟩,(u4.set t (.slice A9 (R++[F0]).length d9)),u7,u8,(.slice Ag (allGrants n).length cg),(.slice Ao (stTs n).length co),(.slice (some ⟨be,oe,none⟩) (enteringN n).length ce),(.slice Am (stMs n).length cm),allGrants n,stTs n,enteringN n,stMs n⟩ { x with bufs:=x.bufs.set t (R++[F0]) } W10):=Lib.hid (by
           have hh:=(HS3.out).setBuf (g:=g4) (k:=t) (u:=.slice A9 (R++[F0]).length d9) (y:=R++[F0]) rfl HTL.out (by rw[show vr u4 t=.slice At R.length ct from HV.out];exact hg9) H9 (by rw[show vr u4 t=.slice At R.length ct from HV.out];exact ha9)
           rw[e10,←hl9]
           exact hh)
          have hz10:W3.heap.size≤W10.heap.size:=by rw[e10];simp only[szs];exact hg9.size
          try rw[hl9]
          rw[←e10]
          clear e10 k1 k2 hg9 hg9r H9 ha9 m0 m1 m2 m3 m4 cl1 cl2 y5
          have q8:W10.cell? ⟨bx,8,none⟩=some (.slice (some ⟨g7,0,none⟩) n.srcs.length c7):=HS5.out.bt.box.get 8
          have qx:bx<W10.heap.size:=HS5.out.bt.lt
          obtain⟨s1,s2⟩:=own_facts7 (x:={ x with bufs:=x.bufs.set t (R++[F0]) }) HS5.out.nx rfl HSL.out HV7.out
          have HC5:=Lib.hid (HD.out _ (row_read7 (x:={ x with bufs:=x.bufs.set t (R++[F0]) }) HS5.out.nx HSL.out HV7.out HSR.out))
          have l10:lo≤W10.heap.size:=by omega
          have O7:g7<W10.heap.size:=by have:=(HTop.out g7 (.inr (.inr (.inr (.inl rfl))))).2;have:=HS5.out.size;omega
          have S1:=Lib.hid s1
          have S2:=Lib.hid s2
          have HB7:Hid (BlkT W10 g7 145):=Lib.hid (own_typed HS5.out.nx.srcs g7 rfl)
          go_wp2_with fail
          refine wp_region_tx (CK W10 none) (fun i=>[.pointer (some ⟨bx,0,none⟩),.pointer (some ⟨bx,0,none⟩),.pointer (some ⟨bx,8,none⟩),.slice (some ⟨g7,0,none⟩) n.srcs.length c7,.int .i64 (a:Int),undef,.pointer (some ⟨bx,0,none⟩),.pointer (some ⟨bx,0,none⟩),.pointer (some ⟨bx,8,none⟩),.slice (some ⟨g7,0,none⟩) n.srcs.length c7,.int .i64 (a:Int),.pointer (some ⟨g7,a,none⟩),.slice (some ⟨rs,ro,none⟩) (rl n.srcs (a:Int)).length cs,.slice A2 D.length (cs - 1),undef,.pointer (some ⟨g7,a,none⟩)].getD i undef) 16 [(0,.quiet),(1,.quiet),(2,.quiet),(3,.quiet),(4,.quiet),(5,.chain),(6,.quiet),(7,.quiet),(8,.quiet),(9,.quiet),(10,.quiet),(11,.quiet),(12,.quiet),(13,.quiet),(14,.chain),(15,.quiet)] (by kernel_rfl) (by kernel_rfl) (by kernel_rfl) (by kernel_rfl) (by kernel_rfl) (by kernel_rfl) (by kernel_rfl) (by kernel_rfl) CK.drew (fun W=>W=W10.drew) rfl ?_
          refine wpTx_q (some 193) rfl rfl (by rfl) (fun W hC=>?_) ?_
          ·clear hC
           go_simp
           try rfl
          try simp only[Act.put,nms]
          refine wpTx_q (some 194) rfl rfl (by rfl) (fun W hC=>?_) ?_
          ·clear hC
           go_simp
           try rfl
          try simp only[Act.put,nms]
          refine wpTx_q (some 195) rfl rfl (by rfl) (fun W hC=>?_) ?_
          ·clear hC
           go_simp
           try rfl
          try simp only[Act.put,nms]
          refine wpTx_q (some 196) rfl rfl (by rfl) (fun W hC=>?_) ?_
          ·have:=hC.cell qx (by simp) q8
           clear hC
           go_simp
           try rfl
          try simp only[Act.put,nms]
          refine wpTx_q (some 197) rfl rfl (by rfl) (fun W hC=>?_) ?_
          ·clear hC
           go_simp
           try rfl
          try simp only[Act.put,nms]
          refine wpTx_c (some 198) rfl rfl (by rfl) () (fun _=>.slice (some ⟨W10.heap.size,0,none⟩) 0 0) (fun _ W=>W=W10.drew.alloc (.cells #[] 153)) (fun W hF hC=>?_) (fun _=>?_)
          ·subst hF
           refine LoOp.val (v:=.slice (some ⟨W10.heap.size,0,none⟩) 0 0) (w1:=W10.drew.alloc (.cells #[] 153)) ?_ ⟨(),rfl,hC.alloc _,rfl⟩
           go_simp
           try rfl
          try simp only[Act.put,nms]
          refine wpTx_q (some 199) rfl rfl (by rfl) (fun W hC=>?_) ?_
          ·clear hC
           go_simp
           try rfl
          try simp only[Act.put,nms]
          refine wpTx_q (some 200) rfl rfl (by rfl) (fun W hC=>?_) ?_
          ·clear hC
           go_simp
           try rfl
          try simp only[Act.put,nms]
          refine wpTx_q (some 201) rfl rfl (by rfl) (fun W hC=>?_) ?_
          ·clear hC
           go_simp
           try rfl
          try simp only[Act.put,nms]
          refine wpTx_q (some 202) rfl rfl (by rfl) (fun W hC=>?_) ?_
          ·have:=hC.cell qx (by simp) q8
           clear hC
           go_simp
           try rfl
          try simp only[Act.put,nms]
          refine wpTx_q (some 203) rfl rfl (by rfl) (fun W hC=>?_) ?_
          ·clear hC
           go_simp
           try rfl
          try simp only[Act.put,nms]
          refine wpTx_q (some 204) rfl rfl (by rfl) (fun W hC=>?_) ?_
          ·clear hC
           go_simp
           try rfl
          try simp only[Act.put,nms]
          refine wpTx_q (some 205) rfl rfl (by rfl) (fun W hC=>?_) ?_
          ·have:=hC.cell O7 (by simp) S1.out
           clear hC
           go_simp
           try rfl
          try simp only[Act.put,nms]
          refine wpTx_q (some 206) rfl rfl (by rfl) (fun W hC=>?_) ?_
          ·clear hC
           go_simp
           try rfl
          try simp only[Act.put,nms]
          refine wpTx_c (some 207) rfl rfl (by rfl) ((none,0):Option Addr × Nat) (fun y=>.slice y.1 D.length y.2) (fun y W9=>kF.R 153 W9 lo (fun _=>True) (.slice y.1 D.length y.2) D∧Below W10.heap.size W10 W9∧At2 W10.heap.size (W10.drew.alloc (.cells #[] 153)).heap.size W9.heap.size (.slice y.1 D.length y.2)) (fun W hF hC=>?_) (fun y=>?_)
          ·subst hF
           refine LoOp.of_if (ops:=#[]) rfl rfl (by simp) (by rfl) (copyS_F (ops:=#[]) (W:=W10.drew.alloc (.cells #[] 153)) (B:=lo) (by rfl) (.tmp 198) (.tmp 206) rfl W10.heap.size D A2 (cs - 1) rfl rfl (lit_new rfl) l10 (Kd.C_below HC5.out (bw_alloc _ (bw_drew (bw_refl _)))) (by simp only[szs];omega) hDn ?_)
           intro v2 w4 HD4 hb4 ht4
           obtain⟨A4,d4,rfl⟩:=Kd.R_slice HD4
           exact⟨(A4,d4),rfl,hC.below hb4,HD4,bw_then (bw_alloc _ (bw_drew (bw_refl _))) hb4,ht4⟩
          try simp only[Act.put,nms]
          refine wpTx_q (some 208) rfl rfl (by rfl) (fun W hC=>?_) ?_
          ·clear hC
           go_simp
           try rfl
          try simp only[Act.put,nms]
          refine wpTx_z (fun w4 hF hC=>?_)
          obtain⟨A4,d4⟩:=y
          obtain⟨HD4,hb44,ht4⟩:=hF
          dsimp only at HD4 ht4
          have k1:=hC.cell O7 (by simp) S1.out
          have k2:=hC.frozen O7 (by simp) S2.out
          clear hC
          refine⟨_,rfl,by rfl,?_⟩
          go_simp
          all_goals
           go_wp2
           go_roundw
           case rel=>
            refine⟨k+1,u4.set t (.slice A9 (R++[F0]).length d9),u7.set a (.slice A4 D.length d4),by go_num,by omega,Lib.hid ?_⟩
            have hh:=HS5.out.setSrc (g:=g7) (k:=a) (u:=.slice A4 D.length d4) (y:=D) rfl HSL.out (grown_below _ hb44) (Kd.R_mono HD4 (fun _ _=>trivial)) (anew_ge (by first|omega|(simp only[szs];omega)) (by first|omega|(simp only[szs];omega)) ht4)
            rw[HNX.out,HEB.out,HRE.out]
            first|exact hh|exact hh.below (bw_drew (bw_refl _))
           case measure=>simp[intOf];omega
        ·obtain rfl:k=(enteringN n).length:=by omega
         have hx0:enterL n (afterPush n) ((enteringN n).take (enteringN n).length)=enterL n (afterPush n) (enteringN n):=by rw[List.take_length]
         rw[hx0] at HS
         have ti:=time_ok OK.out
         have y10:wp.cell? ⟨bx,10,none⟩=some (.int .i64 n.time):=HS.out.bt.box.get 10
         have z10:=HS.out.bt.frozen 10
         clear hx0
         go_wp2
         exact bodyPost_end (v:=.tuple #[]) (by simp[results,Tryz.results70,go_sem]) rfl ⟨rfl,⟨_,u4,u7,u8,(HS.out.nx.typed HS.out.bt.blk (by decide) (by decide) (by decide) 10 _).time (n.time+1),by unfold BT;rw[←netCells_step];exact blk_set HS.out.bt 10 _⟩,below_setc HS.out.blw hlo 10 _⟩
end Go.Proofs.YtodbglncccgdbaaGreat
