/- Lemmas for laws of this seat, for all inputs: SndV DrN RunJ RunT RunU RunB MA WEqStruct WhI WhS WhP. -/
import Derived.Test.YtodbglncccgdbaaGreatQ17
import Derived.Test.YtodbglncccgdbaaGreatQ15
import Derived.Test.YtodbglncccgdbaaGreatQ7
import Derived.Test.YtodbglncccgdbaaGreatQ5
import Derived.Test.YtodbglncccgdbaaGreatQ1
import Derived.Test.YtodbglncccgdbaaGreatQ2
import Derived.Laws.StructEq
import Derived.Test.YtodbglncccgdbaaGreatQ8
set_option linter.unusedVariables false
set_option linter.unusedSimpArgs false
namespace Go.Proofs.YtodbglncccgdbaaGreat
open Go.RowKit Go.Proofs.YtodbglncccgdbaaGreatW.PrintWords
open NoC
theorem spec_l16Bit (b:Bool) (w:World):Calls Tryz.prog 174 #[.bool b] w fun e w'=>e=.returned (.int .i64 (if b=true then 1 else 0))∧w'=w:=by
  cases b
  · go_enter Tryz.func174,Tryz.ntmps174
    go_wp2
    go_ret
    exact⟨rfl,rfl⟩
  · go_enter Tryz.func174,Tryz.ntmps174
    go_wp2
    go_ret
    exact⟨rfl,rfl⟩
set_option maxHeartbeats 16000000 in
set_option maxRecDepth 100000 in
theorem spec_SendAll (n:Net) (l:List Packet) (q:NA) (A:Option Addr) (c:Nat) (w:World) (hr:NetR 153 w n q) (hp:kP.C w A l.length l) (hl:l.length≤2097152) :
  Calls Tryz.prog 106 #[.agg (netCells n q),.slice A l.length c] w fun e w'=>GotNV w w' (sendAllN n l) (.int .i64 (sendAllK n l)) e∧Below w.heap.size w w':=by
 have HR:=Lib.hid hr
 have NBQ:=Lib.hid hr.nb
 have HP:=Lib.hid hp
 clear hp
 obtain⟨a1,a2,a3,a4,a5,a6,a7,a8,c1,c2,c3,c4,c5,c6,c7,c8⟩:=q
 clear hr
 dsimp only [netCells]
 go_enter Tryz.func106,Tryz.ntmps106
 go_wp2_with fail

 refine(spec_l15Copy n _ _ (HR.out.below bel)).mono ?_
 rintro e w1 ⟨hg1,HBC⟩
 obtain⟨qq,v4,v7,v8,rfl,HN0⟩:=hg1
 obtain⟨b1,b2,b3,b4,b5,b6,b7,b8,d1,d2,d3,d4,d5,d6,d7,d8⟩:=qq
 dsimp only [netCells]
 have HN1:=Lib.hid HN0
 clear HN0
 obtain⟨w0,e0⟩:∃ z,z=w1.alloc (.cells #[.int .i64 n.mesh.g.w,.int .i64 n.mesh.g.h,.slice b1 n.mesh.br.length d1,.slice b2 n.pa.length d2,.slice b3 n.pb.length d3,.slice b4 n.bufs.length d4,.slice b5 n.owners.length d5,.slice b6 n.turns.length d6,.slice b7 n.srcs.length d7,.slice b8 n.arrs.length d8,.int .i64 n.time] 42):=⟨_,rfl⟩
 have hz0:w0.heap.size=w1.heap.size+1:=by rw[e0];simp only[szs]
 have hw01:Below w1.heap.size w1 w0:=by rw[e0];exact bw_alloc _ (bw_refl w1)
 obtain⟨bx,ebx⟩:∃ z,z=w1.heap.size:=⟨_,rfl⟩
 have HBT:Hid (BT w0 bx n ⟨b1,b2,b3,b4,b5,b6,b7,b8,d1,d2,d3,d4,d5,d6,d7,d8⟩):=Lib.hid (by rw[e0,ebx];exact blk_new w1 _)
 obtain⟨lo,elo⟩:∃ z,z=w.heap.size+2:=⟨_,rfl⟩
 have HN:Hid (NX w0 lo n ⟨b1,b2,b3,b4,b5,b6,b7,b8,d1,d2,d3,d4,d5,d6,d7,d8⟩ v4 v7 v8):=Lib.hid ((HN1.out.lower (by simp only[szs];omega)).below hw01)
 have HHB:Hid (Below w.heap.size w w0):=Lib.hid (bw_then (bw_then (bw_alloc _ (bw_alloc _ (bw_refl w))) HBC) hw01)
 have sw:w.heap.size+2≤w1.heap.size:=by have:=bw_size HBC;simp only[szs] at this;omega
 have HX0:Hid (Box w0 w.heap.size #[.int .i64 n.mesh.g.w,.int .i64 n.mesh.g.h,.slice a1 n.mesh.br.length c1,.slice a2 n.pa.length c2,.slice a3 n.pb.length c3,.slice a4 n.bufs.length c4,.slice a5 n.owners.length c5,.slice a6 n.turns.length c6,.slice a7 n.srcs.length c7,.slice a8 n.arrs.length c8,.int .i64 n.time]):=Lib.hid (((((Box.new w w.heap.size #[.int .i64 n.mesh.g.w,.int .i64 n.mesh.g.h,.slice a1 n.mesh.br.length c1,.slice a2 n.pa.length c2,.slice a3 n.pb.length c3,.slice a4 n.bufs.length c4,.slice a5 n.owners.length c5,.slice a6 n.turns.length c6,.slice a7 n.srcs.length c7,.slice a8 n.arrs.length c8,.int .i64 n.time] 42 rfl).alloc _).below HBC)).below hw01)
 have HZB:Hid (BN w0 (w.heap.size+1)):=Lib.hid (((BT.bn (by have hn:=BT.new (w.alloc (.cells #[.int .i64 n.mesh.g.w,.int .i64 n.mesh.g.h,.slice a1 n.mesh.br.length c1,.slice a2 n.pa.length c2,.slice a3 n.pb.length c3,.slice a4 n.bufs.length c4,.slice a5 n.owners.length c5,.slice a6 n.turns.length c6,.slice a7 n.srcs.length c7,.slice a8 n.arrs.length c8,.int .i64 n.time] 42)) ⟨⟨⟨0,0⟩,[]⟩,[],[],[],[],[],[],[],0⟩ ⟨none,none,none,none,none,none,none,none,0,0,0,0,0,0,0,0⟩;rw[World.size_alloc] at hn;exact hn)).below HBC).below hw01)
 have box11:Box (w1.alloc (.cells #[.int .i64 n.mesh.g.w,.int .i64 n.mesh.g.h,.slice b1 n.mesh.br.length d1,.slice b2 n.pa.length d2,.slice b3 n.pb.length d3,.slice b4 n.bufs.length d4,.slice b5 n.owners.length d5,.slice b6 n.turns.length d6,.slice b7 n.srcs.length d7,.slice b8 n.arrs.length d8,.int .i64 n.time] 42)) w.heap.size #[.int .i64 n.mesh.g.w,.int .i64 n.mesh.g.h,.slice a1 n.mesh.br.length c1,.slice a2 n.pa.length c2,.slice a3 n.pb.length c3,.slice a4 n.bufs.length c4,.slice a5 n.owners.length c5,.slice a6 n.turns.length c6,.slice a7 n.srcs.length c7,.slice a8 n.arrs.length c8,.int .i64 n.time]:=by rw[←e0];exact HX0.out
 obtain⟨xo0,xo1,xo2,xo3,xo4,xo5,xo6,xo7,xo8,xo9,xo10⟩:=all11 box11
 clear box11
 have xol:w.heap.size<(w1.alloc (.cells #[.int .i64 n.mesh.g.w,.int .i64 n.mesh.g.h,.slice b1 n.mesh.br.length d1,.slice b2 n.pa.length d2,.slice b3 n.pb.length d3,.slice b4 n.bufs.length d4,.slice b5 n.owners.length d5,.slice b6 n.turns.length d6,.slice b7 n.srcs.length d7,.slice b8 n.arrs.length d8,.int .i64 n.time] 42)).heap.size:=by rw[←e0];exact HX0.out.lt
 go_wp2_with fail
 rw[←e0]
 try rw[←ebx]
 repeat (first|clear xo0|clear xo1|clear xo2|clear xo3|clear xo4|clear xo5|clear xo6|clear xo7|clear xo8|clear xo9|clear xo10)
 clear xol
 have sb1:bx<w0.heap.size:=by omega
 have sb2:w.heap.size+2≤bx:=by omega
 have sl1:lo≤w.heap.size+2:=by omega
 have sl2:w.heap.size+2≤lo:=by omega
 have sl3:lo≤bx:=by omega
 have sl4:lo≤w0.heap.size:=by omega
 clear e0 ebx elo hz0 sw HN1 HBC hw01

 refine(spec_NetOk n _ _ (HR.out.below HHB.out)).mono ?_

 rintro e w2 ⟨rfl,Bb⟩
 have HN2:=Lib.hid (HN.out.below Bb)
 have HB2:=Lib.hid (HBT.out.below Bb)
 have HZ2:=Lib.hid (HZB.out.below Bb)
 have HX2:=Lib.hid (HX0.out.below Bb)
 have HL2:Hid (Below lo w0 w2):=Lib.hid (Below.cut Bb sl4)
 have zz2:=bw_size Bb
 have HWB:Hid (Below w.heap.size w w2):=Lib.hid (bw_then HHB.out Bb)
 clear Bb

 cases hk:netOk n
 ·have HE:=Lib.hid (sendAll_no1 (l:=l) hk)
  have box11:Box w2 bx #[.int .i64 n.mesh.g.w,.int .i64 n.mesh.g.h,.slice b1 n.mesh.br.length d1,.slice b2 n.pa.length d2,.slice b3 n.pb.length d3,.slice b4 n.bufs.length d4,.slice b5 n.owners.length d5,.slice b6 n.turns.length d6,.slice b7 n.srcs.length d7,.slice b8 n.arrs.length d8,.int .i64 n.time]:=HB2.out.box
  obtain⟨z0,z1,z2,z3,z4,z5,z6,z7,z8,z9,z10⟩:=all11 box11
  clear box11
  have zx:bx<w2.heap.size:=HB2.out.lt

  obtain⟨⟨ry0,rv0⟩,⟨ry1,rv1⟩,⟨ry2,rv2⟩,⟨ry3,rv3⟩,⟨ry4,rv4⟩,⟨ry5,rv5⟩,⟨ry6,rv6⟩,⟨ry7,rv7⟩,⟨ry8,rv8⟩,⟨ry9,rv9⟩,⟨ry10,rv10⟩,rz0,rz1,rz2,rz3,rz4,rz5,rz6,rz7,rz8,rz9,rz10⟩:=allBN HZ2.out
  go_wp2
  obtain⟨W9,e9⟩:∃ z,z=putN w2 (w.heap.size+1) n ⟨b1,b2,b3,b4,b5,b6,b7,b8,d1,d2,d3,d4,d5,d6,d7,d8⟩:=⟨_,rfl⟩
  have HB9:Hid (BT W9 (w.heap.size+1) n ⟨b1,b2,b3,b4,b5,b6,b7,b8,d1,d2,d3,d4,d5,d6,d7,d8⟩):=Lib.hid (by rw[e9];exact putN_BT HZ2.out)
  have HN9:=Lib.hid (show NX W9 _ n ⟨b1,b2,b3,b4,b5,b6,b7,b8,d1,d2,d3,d4,d5,d6,d7,d8⟩ v4 v7 v8 from by rw[e9];exact HN2.out.put HZ2.out)
  have HL9:Hid (Below w.heap.size w W9):=Lib.hid (by rw[e9];exact below_put HWB.out (by omega))
  unfold putN at e9
  try dsimp only at e9
  rw[←e9]
  clear e9
  exact bodyPost_ret (results_cell_row2 Tryz.results106 _ _ ((w.heap.size+1)) 42 _ (0,0) _ rfl HB9.out Tryz.underlying42 rfl (by kernel_rfl)) rfl (by dsimp only;rw[HE.out.1,HE.out.2];exact⟨⟨_,_,_,_,rfl,HN9.out.lower (by omega)⟩,HL9.out⟩)
 by_cases h40:l.length≤40
 case neg=>
  have HE:=Lib.hid (sendAll_no2 (n:=n) h40)
  have h41:(40:Int)<(l.length:Int):=by omega
  clear h40
  have box11:Box w2 bx #[.int .i64 n.mesh.g.w,.int .i64 n.mesh.g.h,.slice b1 n.mesh.br.length d1,.slice b2 n.pa.length d2,.slice b3 n.pb.length d3,.slice b4 n.bufs.length d4,.slice b5 n.owners.length d5,.slice b6 n.turns.length d6,.slice b7 n.srcs.length d7,.slice b8 n.arrs.length d8,.int .i64 n.time]:=HB2.out.box
  obtain⟨z0,z1,z2,z3,z4,z5,z6,z7,z8,z9,z10⟩:=all11 box11
  clear box11
  have zx:bx<w2.heap.size:=HB2.out.lt

  obtain⟨⟨ry0,rv0⟩,⟨ry1,rv1⟩,⟨ry2,rv2⟩,⟨ry3,rv3⟩,⟨ry4,rv4⟩,⟨ry5,rv5⟩,⟨ry6,rv6⟩,⟨ry7,rv7⟩,⟨ry8,rv8⟩,⟨ry9,rv9⟩,⟨ry10,rv10⟩,rz0,rz1,rz2,rz3,rz4,rz5,rz6,rz7,rz8,rz9,rz10⟩:=allBN HZ2.out
  go_wp2
  obtain⟨W9,e9⟩:∃ z,z=putN w2 (w.heap.size+1) n ⟨b1,b2,b3,b4,b5,b6,b7,b8,d1,d2,d3,d4,d5,d6,d7,d8⟩:=⟨_,rfl⟩
  have HB9:Hid (BT W9 (w.heap.size+1) n ⟨b1,b2,b3,b4,b5,b6,b7,b8,d1,d2,d3,d4,d5,d6,d7,d8⟩):=Lib.hid (by rw[e9];exact putN_BT HZ2.out)
  have HN9:=Lib.hid (show NX W9 _ n ⟨b1,b2,b3,b4,b5,b6,b7,b8,d1,d2,d3,d4,d5,d6,d7,d8⟩ v4 v7 v8 from by rw[e9];exact HN2.out.put HZ2.out)
  have HL9:Hid (Below w.heap.size w W9):=Lib.hid (by rw[e9];exact below_put HWB.out (by omega))
  unfold putN at e9
  try dsimp only at e9
  rw[←e9]
  clear e9
  exact bodyPost_ret (results_cell_row2 Tryz.results106 _ _ ((w.heap.size+1)) 42 _ (0,0) _ rfl HB9.out Tryz.underlying42 rfl (by kernel_rfl)) rfl (by dsimp only;rw[HE.out.1,HE.out.2];exact⟨⟨_,_,_,_,rfl,HN9.out.lower (by omega)⟩,HL9.out⟩)
 case pos=>
  have HE:=Lib.hid (sendAll_yes hk h40)
  have HOK:Hid (∀ k:Nat,netOk (sndTo n l k)=true):=Lib.hid (sndTo_ok hk l)
  have HNB:Hid (∀ k:Nat,NB (sndTo n l k)):=Lib.hid (sndTo_nb NBQ.out hk l)
  have h41:¬ (40:Int)<(l.length:Int):=by omega
  clear hk
  go_wp2_with fail
  go_loopw [7,8] (fun v i wr=>∃ (k:Nat) (q':NA) (u4 u7 u8:List Value),i=.int .i64 k∧v=.int .i64 (cntTo n l k)∧k≤l.length∧Hid (NX wr lo (sndTo n l k) q' u4 u7 u8)∧Hid (BT wr bx (sndTo n l k) q')∧Hid (Below lo w0 wr)) (fun v i _=>l.length - (intOf i).toNat)
  case atStart=>exact⟨0,_,v4,v7,v8,rfl,rfl,Nat.zero_le _,Lib.hid HN2.out,Lib.hid HB2.out,Lib.hid HL2.out⟩
  case round=>
   clear HN2 HB2 HL2 HZ2 HX2 HWB
   obtain⟨k,q',u4,u7,u8,rfl,rfl,hk,HNk,HBk,HLk⟩:=hrel
   obtain⟨wk,ewk⟩:∃ z,z=wr:=⟨_,rfl⟩
   subst ewk
   obtain⟨p1,p2,p3,p4,p5,p6,p7,p8,r1,r2,r3,r4,r5,r6,r7,r8⟩:=q'
   have hcr:=cntTo_range n l k
   by_cases hlt:k<l.length
   ·have HWBk:Hid (Below w.heap.size w wk):=Lib.hid (bw_trans HHB.out HLk.out (by omega))
    have hpk:=Kd.C_below HP.out HWBk.out
    obtain⟨pb,po,eA,hpb,pk0,pk1,pk2,pk3,pk4⟩:=rdP_at hpk k hlt
    subst eA
    have zzk:=HLk.out.size
    have i0:(k:Int)<(l.length:Int):=by omega
    have k0:(0:Int)≤(k:Int):=by omega
    obtain⟨P,hP⟩:∃ P,rp l k=P:=⟨_,rfl⟩
    have HNBk:=Lib.hid (HNB.out k)
    have HOKk:=Lib.hid (HOK.out k)
    have HS3:Hid (sndTo n l (k+1)=sndN (sndTo n l k) P):=Lib.hid (by rw[←hP];rfl)
    have HC3:Hid (cntTo n l (k+1)=cntTo n l k+(if sendOk (sndTo n l k) P=true then 1 else 0)):=Lib.hid (by rw[←hP];rfl)
    obtain⟨XK,hXK⟩:∃ XK,sndTo n l k=XK:=⟨_,rfl⟩
    rw[hXK] at HNk HBk HNBk HOKk HS3 HC3
    rw[hP] at pk0 pk1 pk2 pk3 pk4
    have HSP:Hid (∀ W,Below wk.heap.size wk W→Calls Tryz.prog 173 #[.agg (netCells XK ⟨p1,p2,p3,p4,p5,p6,p7,p8,r1,r2,r3,r4,r5,r6,r7,r8⟩),.agg #[.int .i64 P.id,.int .i64 P.src,.int .i64 P.dst,.int .i64 P.cls,.int .i64 P.len]] W fun e w'=>GotNV W w' (sndN XK P) (.bool (sendOk XK P)) e∧Below W.heap.size W w'):=Lib.hid (fun W hW=>by
     have h:=spec_SendPacket XK P ⟨p1,p2,p3,p4,p5,p6,p7,p8,r1,r2,r3,r4,r5,r6,r7,r8⟩ W ((HNk.out.reads HNBk.out).below hW)
     rw[show sendPacketN XK P=sndN XK P by simp[sendPacketN,HOKk.out],show sendPacketB XK P=sendOk XK P by simp[sendPacketB,HOKk.out]] at h
     exact h)
    dsimp only [netCells] at HSP
    have bxk:=HBk.out.lt
    clear hpk hP hXK
    go_wp2_with fail
    refine wp_region_ty wk.heap.size (fun _=>.cells #[.int .i64 0,.int .i64 0,.slice none 0 0,.slice none 0 0,.slice none 0 0,.slice none 0 0,.slice none 0 0,.slice none 0 0,.slice none 0 0,.slice none 0 0,.int .i64 0] 42) (fun W=>Below wk.heap.size wk W) (fun i=>[.agg #[.int .i64 XK.mesh.g.w,.int .i64 XK.mesh.g.h,.slice p1 XK.mesh.br.length r1,.slice p2 XK.pa.length r2,.slice p3 XK.pb.length r3,.slice p4 XK.bufs.length r4,.slice p5 XK.owners.length r5,.slice p6 XK.turns.length r6,.slice p7 XK.srcs.length r7,.slice p8 XK.arrs.length r8,.int .i64 XK.time],.slice (some ⟨pb,po,none⟩) l.length c,.int .i64 k,.pointer (some ⟨pb,po+k*5,none⟩),.agg #[.int .i64 P.id,.int .i64 P.src,.int .i64 P.dst,.int .i64 P.cls,.int .i64 P.len],undef,undef,undef,undef,undef,undef].getD i undef) 11 [(0,.quiet),(1,.quiet),(2,.quiet),(3,.quiet),(4,.quiet),(5,.chain),(6,.quiet),(7,.quiet),(8,.quiet),(9,.lit),(10,.chain)] (by kernel_rfl) (by kernel_rfl) (by kernel_rfl) (by kernel_rfl) (by kernel_rfl) (by kernel_rfl) (by kernel_rfl) (by kernel_rfl) (bw_drew (bw_refl _)) ⟨fun W o h=>bw_alloc _ h,fun W h=>bw_size h⟩ (fun _=>True) trivial (fun _ _ _ _ _=>trivial) ?_
    refine wpTx_q (some 29) rfl rfl (by rfl) (fun W hC=>?_) ?_
    ·have hX:=Box.below HBk.out.box hC
     have box11:Box W bx #[.int .i64 XK.mesh.g.w,.int .i64 XK.mesh.g.h,.slice p1 XK.mesh.br.length r1,.slice p2 XK.pa.length r2,.slice p3 XK.pb.length r3,.slice p4 XK.bufs.length r4,.slice p5 XK.owners.length r5,.slice p6 XK.turns.length r6,.slice p7 XK.srcs.length r7,.slice p8 XK.arrs.length r8,.int .i64 XK.time]:=hX
     obtain⟨h0,h1,h2,h3,h4,h5,h6,h7,h8,h9,h10⟩:=all11 box11
     clear box11
     clear hX
     clear hC
     go_simp
     try rfl
    try simp only[Act.put,nms]
    refine wpTx_q (some 30) rfl rfl (by rfl) (fun W hC=>?_) ?_
    ·clear hC
     go_simp
     try rfl
    try simp only[Act.put,nms]
    refine wpTx_q (some 31) rfl rfl (by rfl) (fun W hC=>?_) ?_
    ·clear hC
     go_simp
     try rfl
    try simp only[Act.put,nms]
    refine wpTx_q (some 32) rfl rfl (by rfl) (fun W hC=>?_) ?_
    ·clear hC
     go_simp
     try rfl
    try simp only[Act.put,nms]
    refine wpTx_q (some 33) rfl rfl (by rfl) (fun W hC=>?_) ?_
    ·have h0:=(cell_low hC hpb _).trans pk0
     have h1:=(cell_low hC hpb _).trans pk1
     have h2:=(cell_low hC hpb _).trans pk2
     have h3:=(cell_low hC hpb _).trans pk3
     have h4:=(cell_low hC hpb _).trans pk4
     clear hC
     go_simp
     try rfl
    try simp only[Act.put,nms]
    refine wpTx_d (some 34) rfl rfl (by rfl) NAV.zero (fun y=>.tuple #[.agg (netCells (sndN XK P) y.q),.bool (sendOk XK P)]) (fun y W=>GX wk.heap.size (sndN XK P) y W) (fun y=>(y.lo,y.hi)) (fun W hF hC=>?_) (fun y W W' h hb=>h.below hb) (fun yq=>?_)
    ·refine LoOp.enter (by go_simp;first|done|exact⟨rfl,rfl⟩|rfl) ?_
     refine(HSP.out W hC).mono ?_
     rintro e W1 ⟨hg,Ba⟩
     obtain⟨y,rfl,hx,h1,h2⟩:=GX.of hg Ba (bw_size hC)
     exact⟨_,rfl,y,rfl,bw_then hC Ba,hx,Ba,h1,h2⟩
    obtain⟨⟨s1,s2,s3,s4,s5,s6,s7,s8,t1,t2,t3,t4,t5,t6,t7,t8⟩,s4x,s7x,s8x,lox,hix⟩:=yq
    dsimp only [netCells]
    try simp only[Act.put,nms]
    refine wpTx_v (some 28) (.tuple #[.agg #[.int .i64 (sndN XK P).mesh.g.w,.int .i64 (sndN XK P).mesh.g.h,.slice s1 (sndN XK P).mesh.br.length t1,.slice s2 (sndN XK P).pa.length t2,.slice s3 (sndN XK P).pb.length t3,.slice s4 (sndN XK P).bufs.length t4,.slice s5 (sndN XK P).owners.length t5,.slice s6 (sndN XK P).turns.length t6,.slice s7 (sndN XK P).srcs.length t7,.slice s8 (sndN XK P).arrs.length t8,.int .i64 (sndN XK P).time],.bool (sendOk XK P)]) rfl rfl (by rfl) (fun W hC=>?_) ?_
    ·clear hC
     go_simp
     try rfl
    try simp only[Act.put,nms]
    refine wpTx_v (some 35) (.agg #[.int .i64 (sndN XK P).mesh.g.w,.int .i64 (sndN XK P).mesh.g.h,.slice s1 (sndN XK P).mesh.br.length t1,.slice s2 (sndN XK P).pa.length t2,.slice s3 (sndN XK P).pb.length t3,.slice s4 (sndN XK P).bufs.length t4,.slice s5 (sndN XK P).owners.length t5,.slice s6 (sndN XK P).turns.length t6,.slice s7 (sndN XK P).srcs.length t7,.slice s8 (sndN XK P).arrs.length t8,.int .i64 (sndN XK P).time]) rfl rfl (by rfl) (fun W hC=>?_) ?_
    ·clear hC
     go_simp
     try rfl
    try simp only[Act.put,nms]
    refine wpTx_v (some 36) (.bool (sendOk XK P)) rfl rfl (by rfl) (fun W hC=>?_) ?_
    ·clear hC
     go_simp
     try rfl
    try simp only[Act.put,nms]
    refine wpTx_l (some 9) rfl rfl (by rfl) (fun W=>?_) (fun gb=>?_)
    ·go_simp
     try rfl
    try simp only[Act.put,nms]
    refine wpTx_c none rfl rfl (by rfl) () (fun _=>undef) (fun _ W=>Out wk.heap.size (sndN XK P) ⟨⟨s1,s2,s3,s4,s5,s6,s7,s8,t1,t2,t3,t4,t5,t6,t7,t8⟩,s4x,s7x,s8x,lox,hix⟩ gb wk W) (fun W hF hC=>?_) (fun _=>?_)
    ·have hn:=litBN hF rfl
     obtain⟨⟨ry0,rv0⟩,⟨ry1,rv1⟩,⟨ry2,rv2⟩,⟨ry3,rv3⟩,⟨ry4,rv4⟩,⟨ry5,rv5⟩,⟨ry6,rv6⟩,⟨ry7,rv7⟩,⟨ry8,rv8⟩,⟨ry9,rv9⟩,⟨ry10,rv10⟩,rz0,rz1,rz2,rz3,rz4,rz5,rz6,rz7,rz8,rz9,rz10⟩:=allBN hn
     have hO:=out_of (X:=sndN XK P) (y:=⟨⟨s1,s2,s3,s4,s5,s6,s7,s8,t1,t2,t3,t4,t5,t6,t7,t8⟩,s4x,s7x,s8x,lox,hix⟩) (wa:=wk) hF rfl rfl hC
     refine LoOp.skip rfl (w1:=putN W gb (sndN XK P) ⟨s1,s2,s3,s4,s5,s6,s7,s8,t1,t2,t3,t4,t5,t6,t7,t8⟩) ?_ ⟨(),rfl,hO.below,hO⟩
     clear hO hF hC hn
     unfold putN
     go_simp
     try rfl
    try simp only[Act.put,nms]
    refine wpTx_z (fun w8 hO hC=>?_)
    clear hC
    have HO:=Lib.hid hO
    clear hO
    refine⟨_,rfl,by rfl,?_⟩
    go_simp
    have hb8:=HO.out.below
    have z88:=bw_size hb8
    have B6:Box w8 gb #[.int .i64 (sndN XK P).mesh.g.w,.int .i64 (sndN XK P).mesh.g.h,.slice s1 (sndN XK P).mesh.br.length t1,.slice s2 (sndN XK P).pa.length t2,.slice s3 (sndN XK P).pb.length t3,.slice s4 (sndN XK P).bufs.length t4,.slice s5 (sndN XK P).owners.length t5,.slice s6 (sndN XK P).turns.length t6,.slice s7 (sndN XK P).srcs.length t7,.slice s8 (sndN XK P).arrs.length t8,.int .i64 (sndN XK P).time]:=HO.out.bt.box
    obtain⟨y6,g6⟩:=B6
    have gg0:w8.cell? ⟨gb,0,none⟩=some (.int .i64 (sndN XK P).mesh.g.w):=g6 0
    have gg1:w8.cell? ⟨gb,1,none⟩=some (.int .i64 (sndN XK P).mesh.g.h):=g6 1
    have gg2:w8.cell? ⟨gb,2,none⟩=some (.slice s1 (sndN XK P).mesh.br.length t1):=g6 2
    have gg3:w8.cell? ⟨gb,3,none⟩=some (.slice s2 (sndN XK P).pa.length t2):=g6 3
    have gg4:w8.cell? ⟨gb,4,none⟩=some (.slice s3 (sndN XK P).pb.length t3):=g6 4
    have gg5:w8.cell? ⟨gb,5,none⟩=some (.slice s4 (sndN XK P).bufs.length t4):=g6 5
    have gg6:w8.cell? ⟨gb,6,none⟩=some (.slice s5 (sndN XK P).owners.length t5):=g6 6
    have gg7:w8.cell? ⟨gb,7,none⟩=some (.slice s6 (sndN XK P).turns.length t6):=g6 7
    have gg8:w8.cell? ⟨gb,8,none⟩=some (.slice s7 (sndN XK P).srcs.length t7):=g6 8
    have gg9:w8.cell? ⟨gb,9,none⟩=some (.slice s8 (sndN XK P).arrs.length t8):=g6 9
    have gg10:w8.cell? ⟨gb,10,none⟩=some (.int .i64 (sndN XK P).time):=g6 10
    have HZ8:Hid (BN w8 bx):=Lib.hid ((HBk.out.below hb8).bn)
    obtain⟨⟨ry0,rv0⟩,⟨ry1,rv1⟩,⟨ry2,rv2⟩,⟨ry3,rv3⟩,⟨ry4,rv4⟩,⟨ry5,rv5⟩,⟨ry6,rv6⟩,⟨ry7,rv7⟩,⟨ry8,rv8⟩,⟨ry9,rv9⟩,⟨ry10,rv10⟩,rz0,rz1,rz2,rz3,rz4,rz5,rz6,rz7,rz8,rz9,rz10⟩:=allBN HZ8.out
    have HL8:Hid (Below lo w0 w8):=Lib.hid (bw_trans HLk.out hb8 (by have:=HLk.out.size;omega))
    have HN8:=Lib.hid (HO.out.nx.lower (show lo≤lox by have h1:=HO.out.lo;dsimp only at h1;omega))
    clear hb8 pk0 pk1 pk2 pk3 pk4 HO
    go_wp2_with fail
    have hcr2:=cntTo_range n l k
    obtain⟨W9,e9⟩:∃ z,z=putN w8 bx (sndN XK P) ⟨s1,s2,s3,s4,s5,s6,s7,s8,t1,t2,t3,t4,t5,t6,t7,t8⟩:=⟨_,rfl⟩
    have HB9:Hid (BT W9 bx (sndN XK P) ⟨s1,s2,s3,s4,s5,s6,s7,s8,t1,t2,t3,t4,t5,t6,t7,t8⟩):=Lib.hid (by rw[e9];exact putN_BT HZ8.out)
    have HN9:=Lib.hid (show NX W9 _ (sndN XK P) ⟨s1,s2,s3,s4,s5,s6,s7,s8,t1,t2,t3,t4,t5,t6,t7,t8⟩ s4x s7x s8x from by rw[e9];exact HN8.out.put HZ8.out)
    have HL9:Hid (Below lo w0 W9):=Lib.hid (by rw[e9];exact below_put HL8.out sl3)
    unfold putN at e9
    try dsimp only at e9
    rw[←e9]
    clear e9
    cases hs:sendOk XK P
    ·have HCN:Hid (cntTo n l (k+1)=cntTo n l k):=Lib.hid (by rw[HC3.out,hs];simp)
     refine(spec_l16Bit false _).mono ?_
     rintro e w3 ⟨rfl,rfl⟩
     go_wp2
     go_roundw
     case rel=>exact⟨k+1,⟨s1,s2,s3,s4,s5,s6,s7,s8,t1,t2,t3,t4,t5,t6,t7,t8⟩,s4x,s7x,s8x,by go_num,by rw[HCN.out],by omega,Lib.hid (by rw[HS3.out];exact HN9.out),Lib.hid (by rw[HS3.out];exact HB9.out),Lib.hid HL9.out⟩
     case measure=>simp[intOf];omega
    ·have HCN:Hid (cntTo n l (k+1)=cntTo n l k+1):=Lib.hid (by rw[HC3.out,hs];simp)
     refine(spec_l16Bit true _).mono ?_
     rintro e w3 ⟨rfl,rfl⟩
     go_wp2
     go_roundw
     case rel=>exact⟨k+1,⟨s1,s2,s3,s4,s5,s6,s7,s8,t1,t2,t3,t4,t5,t6,t7,t8⟩,s4x,s7x,s8x,by go_num,by rw[HCN.out],by omega,Lib.hid (by rw[HS3.out];exact HN9.out),Lib.hid (by rw[HS3.out];exact HB9.out),Lib.hid HL9.out⟩
     case measure=>simp[intOf];omega
   ·obtain rfl:k=l.length:=by omega
    have HZk:Hid (BN wk (w.heap.size+1)):=Lib.hid (HZB.out.low HLk.out (by omega))
    have HWBk:Hid (Below w.heap.size w wk):=Lib.hid (bw_trans HHB.out HLk.out (by omega))
    have zzk:=HLk.out.size
    obtain⟨X,hX⟩:∃ X,sndTo n l l.length=X:=⟨_,rfl⟩
    obtain⟨K,hK⟩:∃ K,cntTo n l l.length=K:=⟨_,rfl⟩
    rw[hX] at HNk HBk HE
    rw[hK] at HE
    try rw[hK]
    clear hX hK hcr
    have box11:Box wk bx #[.int .i64 X.mesh.g.w,.int .i64 X.mesh.g.h,.slice p1 X.mesh.br.length r1,.slice p2 X.pa.length r2,.slice p3 X.pb.length r3,.slice p4 X.bufs.length r4,.slice p5 X.owners.length r5,.slice p6 X.turns.length r6,.slice p7 X.srcs.length r7,.slice p8 X.arrs.length r8,.int .i64 X.time]:=HBk.out.box
    obtain⟨z0,z1,z2,z3,z4,z5,z6,z7,z8,z9,z10⟩:=all11 box11
    clear box11
    have zx:bx<wk.heap.size:=HBk.out.lt

    obtain⟨⟨ry0,rv0⟩,⟨ry1,rv1⟩,⟨ry2,rv2⟩,⟨ry3,rv3⟩,⟨ry4,rv4⟩,⟨ry5,rv5⟩,⟨ry6,rv6⟩,⟨ry7,rv7⟩,⟨ry8,rv8⟩,⟨ry9,rv9⟩,⟨ry10,rv10⟩,rz0,rz1,rz2,rz3,rz4,rz5,rz6,rz7,rz8,rz9,rz10⟩:=allBN HZk.out
    go_wp2
    obtain⟨W9,e9⟩:∃ z,z=putN wk (w.heap.size+1) X ⟨p1,p2,p3,p4,p5,p6,p7,p8,r1,r2,r3,r4,r5,r6,r7,r8⟩:=⟨_,rfl⟩
    have HB9:Hid (BT W9 (w.heap.size+1) X ⟨p1,p2,p3,p4,p5,p6,p7,p8,r1,r2,r3,r4,r5,r6,r7,r8⟩):=Lib.hid (by rw[e9];exact putN_BT HZk.out)
    have HN9:=Lib.hid (show NX W9 _ X ⟨p1,p2,p3,p4,p5,p6,p7,p8,r1,r2,r3,r4,r5,r6,r7,r8⟩ u4 u7 u8 from by rw[e9];exact HNk.out.put HZk.out)
    have HL9:Hid (Below w.heap.size w W9):=Lib.hid (by rw[e9];exact below_put HWBk.out (by omega))
    unfold putN at e9
    try dsimp only at e9
    rw[←e9]
    clear e9
    exact bodyPost_ret (results_cell_row2 Tryz.results106 _ _ ((w.heap.size+1)) 42 _ (0,0) _ rfl HB9.out Tryz.underlying42 rfl (by kernel_rfl)) rfl (by dsimp only;rw[HE.out.1,HE.out.2];exact⟨⟨_,_,_,_,rfl,HN9.out.lower (by omega)⟩,HL9.out⟩)
theorem std_classes {g:Grid} {r s:Int} (hg:1≤g.w∧g.w≤4∧1≤g.h∧g.h≤4) (h:1≤r∧r≤4∧1≤s∧s≤4):classesOk ⟨g,[]⟩ (makeT g r) (makeT g s)=true:=by
  unfold classesOk
  rw[make_ok hg.1 hg.2.1 hg.2.2.1 hg.2.2.2 h.1 h.2.1,make_ok hg.1 hg.2.1 hg.2.2.1 hg.2.2.2 h.2.2.1 h.2.2.2]
  rfl
theorem sendAll_ok {n:Net} (ok:netOk n=true) (l:List Packet):netOk (sendAllN n l)=true:=by
  unfold sendAllN
  split
  · exact sndTo_ok ok l _
  · exact ok
theorem sndTo_rest (n:Net) (l:List Packet):∀ k,(sndTo n l k).time=n.time∧(sndTo n l k).arrs=n.arrs∧(sndTo n l k).mesh=n.mesh∧(sndTo n l k).pa=n.pa∧(sndTo n l k).pb=n.pb∧(sndTo n l k).bufs=n.bufs:=by
  intro k
  induction k with
  | zero=>exact⟨rfl,rfl,rfl,rfl,rfl,rfl⟩
  | succ k ih=>
    have h:∀ x:Net,∀ p,(sndN x p).time=x.time∧(sndN x p).arrs=x.arrs∧(sndN x p).mesh=x.mesh∧(sndN x p).pa=x.pa∧(sndN x p).pb=x.pb∧(sndN x p).bufs=x.bufs:=fun x p=>by unfold sndN sendN;split <;> exact⟨rfl,rfl,rfl,rfl,rfl,rfl⟩
    obtain⟨a1,a2,a3,a4,a5,a6⟩:=h (sndTo n l k) (rp l (k:Int))
    obtain⟨b1,b2,b3,b4,b5,b6⟩:=ih
    exact⟨a1.trans b1,a2.trans b2,a3.trans b3,a4.trans b4,a5.trans b5,a6.trans b6⟩
theorem sendAll_rest (n:Net) (l:List Packet):(sendAllN n l).time=n.time∧(sendAllN n l).arrs=n.arrs∧(sendAllN n l).mesh=n.mesh∧(sendAllN n l).pa=n.pa∧(sendAllN n l).pb=n.pb∧(sendAllN n l).bufs=n.bufs:=by
  unfold sendAllN
  split
  · exact sndTo_rest n l _
  · exact⟨rfl,rfl,rfl,rfl,rfl,rfl⟩
theorem run_nb1 {n:Net} (nb:NB n) (hA:∀ x∈n.arrs,x.length≤1048576) (k:Nat) (hk:k≤999) (ok:netOk (runN n k)=true):NB (runN n (k+1)):=by
  obtain⟨e1,e2,e3⟩:=run_parts n (k+1)
  have L:=run_lens n (k+1)
  have L0:=run_lens n k
  refine⟨by rw[e1];exact nb.h1,by rw[e2];exact nb.h2,by rw[e3];exact nb.h3,by rw[L.b];exact nb.h4,by rw[L.o];exact nb.h5,by rw[L.t];exact nb.h6,by rw[L.s];exact nb.h7,by rw[L.a];exact nb.h8,fun x hx=>?_,fun x hx=>?_,fun x hx=>?_⟩
  · obtain⟨i,hi,rfl⟩:=rl_of_mem hx
    have h1:=step_bufs ok i (by rw[L0.b,←L.b];exact hi)
    have h2:(rl (runN n (k+1)).bufs (i:Int)).length≤3:=(bufOk_iff.1 h1).2
    omega
  · obtain⟨i,hi,rfl⟩:=rl_of_mem hx
    obtain⟨c,s1,s2,s3,s4,s5,hb,hs,_⟩:=netOk_parts ok
    have h1:=hs i (by rw[L0.s,←L.s];exact hi)
    simp only[srcOk,Bool.and_eq_true,decide_eq_true_eq] at h1
    have h2:=(enter_rows (runN n k) i (enteringN (runN n k)) (afterPush (runN n k))).2
    have e:(afterPush (runN n k)).srcs=(runN n k).srcs:=by unfold afterPush;rw[pushL_srcs];rfl
    rw[e] at h2
    have h3:(rl (runN n (k+1)).srcs (i:Int)).length≤(rl (runN n k).srcs (i:Int)).length:=h2
    omega
  · obtain⟨i,hi,rfl⟩:=rl_of_mem hx
    have h1:=run_arrs n i (k+1)
    have hi2:i<n.arrs.length:=by rw[←L.a];exact hi
    have h2:=hA _ (rl_mem hi2)
    omega
set_option maxHeartbeats 16000000 in
set_option maxRecDepth 100000 in
theorem spec_StepsToIdle (n:Net) (q:NA) (w:World) (hr:NetR 153 w n q) (hA:∀ x∈n.arrs,x.length≤1048576) :
  Calls Tryz.prog 48 #[.agg (netCells n q)] w fun e w'=>e=.returned (.int .i64 (toIdleN n))∧Below w.heap.size w w':=by
 have HA:=Lib.hid hA
 clear hA
 have HR:=Lib.hid hr
 have NBQ:=Lib.hid hr.nb
 obtain⟨a1,a2,a3,a4,a5,a6,a7,a8,c1,c2,c3,c4,c5,c6,c7,c8⟩:=q
 clear hr
 dsimp only [netCells]
 cases hc:canRunN n 400
 case false=>
  have HE:=Lib.hid (toIdle_not hc).1
  cases hk:netOk n
  ·clear hc
   go_enter Tryz.func48,Tryz.ntmps48
   go_wp2_with (go_at_call 82;refine(spec_NetOk n _ _ (HR.out.below bel)).mono ?_;rintro e w1 ⟨rfl,Ba⟩;obtain⟨Ca,Fa,Za⟩:=bcell Ba;(try simp only[szs] at Za);have Bb:=far2;obtain⟨Cb,Fb,Zb⟩:=bcell Bb;(try simp only[szs] at Zb);try (first|obtain⟨Ya,Yb,Yc,Yd⟩:=lts4 Zb|obtain⟨Ya,Yb,Yc⟩:=lts3 Zb|obtain⟨Ya,Yb⟩:=lts2 Zb|have Ya:=lts1 Zb);have hb9:=Ba)
   go_ret
   exact⟨ret_int HE.out.symm,bel⟩
  ·have ht:¬ n.time+400≤1000000:=by
    intro h
    simp[canRunN,hk,h,inside] at hc
   have ti:=time_ok hk
   have ht2:(1000000:Int)<n.time+400:=by omega
   clear hc ht
   go_enter Tryz.func48,Tryz.ntmps48
   go_wp2_with (go_at_call 82;refine(spec_NetOk n _ _ (HR.out.below bel)).mono ?_;rintro e w1 ⟨rfl,Ba⟩;obtain⟨Ca,Fa,Za⟩:=bcell Ba;(try simp only[szs] at Za);have Bb:=far2;obtain⟨Cb,Fb,Zb⟩:=bcell Bb;(try simp only[szs] at Zb);try (first|obtain⟨Ya,Yb,Yc,Yd⟩:=lts4 Zb|obtain⟨Ya,Yb,Yc⟩:=lts3 Zb|obtain⟨Ya,Yb⟩:=lts2 Zb|have Ya:=lts1 Zb);have hb9:=Ba)
   go_ret
   exact⟨ret_int HE.out.symm,bel⟩
 case true=>
  have HT:Hid (toIdleN n=idleFrom n 0 401):=Lib.hid (toIdle_can hc)
  obtain⟨ok,s0,s4,st⟩:=canRun_parts hc
  have ti:=time_ok ok
  have HOK:Hid (∀ k:Nat,k≤400→netOk (runN n k)=true):=Lib.hid (fun k hk=>runN_ok ok k (by omega))
  have HOK1:Hid (netOk (runN n 401)=true→True):=Lib.hid (fun _=>trivial)
  clear hc
  go_enter Tryz.func48,Tryz.ntmps48
  go_wp2_with fail
  refine(spec_NetOk n _ _ (HR.out.below bel)).mono ?_
  rintro e w2 ⟨he,Bb⟩
  rw[ok] at he
  subst he
  have HX2:Hid (Box w2 w.heap.size #[.int .i64 n.mesh.g.w,.int .i64 n.mesh.g.h,.slice a1 n.mesh.br.length c1,.slice a2 n.pa.length c2,.slice a3 n.pb.length c3,.slice a4 n.bufs.length c4,.slice a5 n.owners.length c5,.slice a6 n.turns.length c6,.slice a7 n.srcs.length c7,.slice a8 n.arrs.length c8,.int .i64 n.time]):=Lib.hid ((Box.new w w.heap.size #[.int .i64 n.mesh.g.w,.int .i64 n.mesh.g.h,.slice a1 n.mesh.br.length c1,.slice a2 n.pa.length c2,.slice a3 n.pb.length c3,.slice a4 n.bufs.length c4,.slice a5 n.owners.length c5,.slice a6 n.turns.length c6,.slice a7 n.srcs.length c7,.slice a8 n.arrs.length c8,.int .i64 n.time] 42 rfl).below Bb)
  have HWB:Hid (Below w.heap.size w w2):=Lib.hid (bw_then (bw_alloc _ (bw_refl w)) Bb)
  have zz2:=bw_size Bb
  simp only[szs] at zz2
  clear Bb
  have box11:Box w2 w.heap.size #[.int .i64 n.mesh.g.w,.int .i64 n.mesh.g.h,.slice a1 n.mesh.br.length c1,.slice a2 n.pa.length c2,.slice a3 n.pb.length c3,.slice a4 n.bufs.length c4,.slice a5 n.owners.length c5,.slice a6 n.turns.length c6,.slice a7 n.srcs.length c7,.slice a8 n.arrs.length c8,.int .i64 n.time]:=HX2.out
  obtain⟨x0,x1,x2,x3,x4,x5,x6,x7,x8,x9,x10⟩:=all11 box11
  clear box11
  have xl:=HX2.out.lt
  go_wp2_with fail
  obtain⟨w0,e0⟩:∃ z,z=w2.alloc (.cells #[.int .i64 n.mesh.g.w,.int .i64 n.mesh.g.h,.slice a1 n.mesh.br.length c1,.slice a2 n.pa.length c2,.slice a3 n.pb.length c3,.slice a4 n.bufs.length c4,.slice a5 n.owners.length c5,.slice a6 n.turns.length c6,.slice a7 n.srcs.length c7,.slice a8 n.arrs.length c8,.int .i64 n.time] 42):=⟨_,rfl⟩
  have hz0:w0.heap.size=w2.heap.size+1:=by rw[e0];simp only[szs]
  have hw01:Below w2.heap.size w2 w0:=by rw[e0];exact bw_alloc _ (bw_refl w2)
  obtain⟨bx,ebx⟩:∃ z,z=w2.heap.size:=⟨_,rfl⟩
  have HBT:Hid (BT w0 bx n ⟨a1,a2,a3,a4,a5,a6,a7,a8,c1,c2,c3,c4,c5,c6,c7,c8⟩):=Lib.hid (by rw[e0,ebx];exact blk_new w2 _)
  have HHB:Hid (Below w.heap.size w w0):=Lib.hid (bw_then HWB.out hw01)
  have sbx:w.heap.size≤bx:=by omega
  have sw0:w.heap.size≤w0.heap.size:=by omega
  rw[←e0]
  try rw[←ebx]
  repeat (first|clear x0|clear x1|clear x2|clear x3|clear x4|clear x5|clear x6|clear x7|clear x8|clear x9|clear x10)
  clear e0 ebx hz0
  go_loopw [4] (fun i wr=>∃ (k:Nat) (q':NA),i=.int .i64 k∧k≤401∧Hid (NetR 153 wr (runN n k) q')∧Hid (BT wr bx (runN n k) q')∧Hid (Below w.heap.size w wr)∧Hid (idleFrom n 0 401=idleFrom n k (401 - k))) (fun i _=>401 - (intOf i).toNat)
  case atStart=>exact⟨0,_,rfl,Nat.zero_le _,Lib.hid (HR.out.below HHB.out),Lib.hid HBT.out,Lib.hid HHB.out,Lib.hid rfl⟩
  case round=>
   clear HBT hw01 HX2 HWB
   obtain⟨k,q',rfl,hk,HRk,HBk,HWk,HIk⟩:=hrel
   by_cases hlt:k<401
   ·have e41:401 - k=(401 - (k+1))+1:=by omega
    rw[e41] at HIk
    obtain⟨wk,ewk⟩:∃ z,z=wr:=⟨_,rfl⟩
    subst ewk
    obtain⟨p1,p2,p3,p4,p5,p6,p7,p8,r1,r2,r3,r4,r5,r6,r7,r8⟩:=q'
    obtain⟨X,hX⟩:∃ X,runN n k=X:=⟨_,rfl⟩
    have HOX:Hid (netOk X=true):=Lib.hid (by rw[←hX];exact HOK.out k (by omega))
    have HSX:Hid (runN n (k+1)=stepN X):=Lib.hid (by rw[←hX];rfl)
    have HNX:Hid (NB (stepN X)):=Lib.hid (by rw[←HSX.out];exact run_nb1 NBQ.out HA.out k (by omega) (HOK.out k (by omega)))
    have HI1:Hid (idleN X=true→toIdleN n=k):=Lib.hid (fun h=>by rw[←hX] at h;exact HT.out.trans (HIk.out.trans (idleFrom_yes h)))
    have HI2:Hid (idleN X=false→idleFrom n 0 401=idleFrom n (k+1) (401 - (k+1))):=Lib.hid (fun h=>by rw[←hX] at h;exact HIk.out.trans (idleFrom_no h))
    have HI3:Hid (movesV X=0→idleN X=false→toIdleN n=-1):=Lib.hid (fun h1 h2=>by rw[←hX] at h1 h2;rw[HT.out,HIk.out];exact idleFrom_stop _ h1 h2)
    rw[hX] at HRk HBk
    clear hX e41
    have box11:Box wk bx #[.int .i64 X.mesh.g.w,.int .i64 X.mesh.g.h,.slice p1 X.mesh.br.length r1,.slice p2 X.pa.length r2,.slice p3 X.pb.length r3,.slice p4 X.bufs.length r4,.slice p5 X.owners.length r5,.slice p6 X.turns.length r6,.slice p7 X.srcs.length r7,.slice p8 X.arrs.length r8,.int .i64 X.time]:=HBk.out.box
    obtain⟨z0,z1,z2,z3,z4,z5,z6,z7,z8,z9,z10⟩:=all11 box11
    clear box11
    have zl:=HBk.out.lt
    cases hi:idleN X
    ·skip
     go_wp2_with fail
     refine(spec_l20Idle X ⟨p1,p2,p3,p4,p5,p6,p7,p8,r1,r2,r3,r4,r5,r6,r7,r8⟩ _ HRk.out).mono ?_
     rintro e w5 ⟨he,hb5⟩
     rw[hi] at he
     subst he
     have HR5:=Lib.hid (HRk.out.below hb5)
     have HB5:=Lib.hid (HBk.out.below hb5)
     have HW5:Hid (Below w.heap.size w w5):=Lib.hid (bw_then HWk.out hb5)
     have HI4:=Lib.hid (HI2.out hi)
     by_cases hm:movesV X=0
     ·have HI5:=Lib.hid (HI3.out hm hi)
      unfold movesV at hm
      have f1:(IntKind.i64.wrap (((allGrants X).length:Int)+((enteringN X).length:Int)) == 0)=true:=by rw[(moves_wrap HOX.out).1,hm];rfl
      clear hi hm
      repeat (first|clear z0|clear z1|clear z2|clear z3|clear z4|clear z5|clear z6|clear z7|clear z8|clear z9|clear z10)
      have box11:Box w5 bx #[.int .i64 X.mesh.g.w,.int .i64 X.mesh.g.h,.slice p1 X.mesh.br.length r1,.slice p2 X.pa.length r2,.slice p3 X.pb.length r3,.slice p4 X.bufs.length r4,.slice p5 X.owners.length r5,.slice p6 X.turns.length r6,.slice p7 X.srcs.length r7,.slice p8 X.arrs.length r8,.int .i64 X.time]:=HB5.out.box
      obtain⟨z0,z1,z2,z3,z4,z5,z6,z7,z8,z9,z10⟩:=all11 box11
      clear box11
      have zl5:=HB5.out.lt
      have hgl:=allGrants_len X
      have hel:(enteringN X).length≤16:=Nat.le_trans (enterTo_len X X.srcs.length) (srcs_len HOX.out).1
      go_wp2_with fail
      go_region_held3 (fun w'=>Below (w5).heap.size (w5) w'∧∀ bq oq,bq<(w5).heap.size→w'.cell? ⟨bq,oq,none⟩=(w5).cell? ⟨bq,oq,none⟩) (first|exact far_of bel) ( first|(go_at_call 108;refine(spec_l18All X _ _ (HR5.out.below bel) HOX.out).mono ?_;rintro e w1 ⟨hg1,Ba⟩;obtain⟨A1,d1,rfl,hk1,hC1⟩:=hg1.read;obtain⟨Ca,Fa,Za⟩:=bcell Ba;(try simp only[szs] at Za);have Bb:=far2;obtain⟨Cb,Fb,Zb⟩:=bcell Bb;(try simp only[szs] at Zb);try (first|obtain⟨Ya,Yb,Yc,Yd⟩:=lts4 Zb|obtain⟨Ya,Yb,Yc⟩:=lts3 Zb|obtain⟨Ya,Yb⟩:=lts2 Zb|have Ya:=lts1 Zb);have hb9:=Ba)|(go_at_call 109;refine(spec_l19Entering X _ _ (HR5.out.below bel) HOX.out).mono ?_;rintro e w1 ⟨hg1,Ba⟩;obtain⟨A1,c1,rfl,hk1,hr1⟩:=hg1.read;obtain⟨Ca,Fa,Za⟩:=bcell Ba;(try simp only[szs] at Za);have Bb:=far2;obtain⟨Cb,Fb,Zb⟩:=bcell Bb;(try simp only[szs] at Zb);try (first|obtain⟨Ya,Yb,Yc,Yd⟩:=lts4 Zb|obtain⟨Ya,Yb,Yc⟩:=lts3 Zb|obtain⟨Ya,Yb⟩:=lts2 Zb|have Ya:=lts1 Zb);have hb9:=Ba))
      all_goals
       go_wp2
       go_ret
       exact⟨ret_int HI5.out.symm,by have hb3:Below w5.heap.size w5 w1:=bel;exact bw_then HW5.out hb3⟩
     ·unfold movesV at hm
      have f1:(IntKind.i64.wrap (((allGrants X).length:Int)+((enteringN X).length:Int)) == 0)=false:=by rw[(moves_wrap HOX.out).1];exact beq_eq_false_iff_ne.2 hm
      clear hi hm
      repeat (first|clear z0|clear z1|clear z2|clear z3|clear z4|clear z5|clear z6|clear z7|clear z8|clear z9|clear z10)
      have box11:Box w5 bx #[.int .i64 X.mesh.g.w,.int .i64 X.mesh.g.h,.slice p1 X.mesh.br.length r1,.slice p2 X.pa.length r2,.slice p3 X.pb.length r3,.slice p4 X.bufs.length r4,.slice p5 X.owners.length r5,.slice p6 X.turns.length r6,.slice p7 X.srcs.length r7,.slice p8 X.arrs.length r8,.int .i64 X.time]:=HB5.out.box
      obtain⟨z0,z1,z2,z3,z4,z5,z6,z7,z8,z9,z10⟩:=all11 box11
      clear box11
      have zl5:=HB5.out.lt
      have hgl:=allGrants_len X
      have hel:(enteringN X).length≤16:=Nat.le_trans (enterTo_len X X.srcs.length) (srcs_len HOX.out).1
      go_wp2_with fail
      go_region_held3 (fun w'=>Below (w5).heap.size (w5) w'∧∀ bq oq,bq<(w5).heap.size→w'.cell? ⟨bq,oq,none⟩=(w5).cell? ⟨bq,oq,none⟩) (first|exact far_of bel) ( first|(go_at_call 108;refine(spec_l18All X _ _ (HR5.out.below bel) HOX.out).mono ?_;rintro e w1 ⟨hg1,Ba⟩;obtain⟨A1,d1,rfl,hk1,hC1⟩:=hg1.read;obtain⟨Ca,Fa,Za⟩:=bcell Ba;(try simp only[szs] at Za);have Bb:=far2;obtain⟨Cb,Fb,Zb⟩:=bcell Bb;(try simp only[szs] at Zb);try (first|obtain⟨Ya,Yb,Yc,Yd⟩:=lts4 Zb|obtain⟨Ya,Yb,Yc⟩:=lts3 Zb|obtain⟨Ya,Yb⟩:=lts2 Zb|have Ya:=lts1 Zb);have hb9:=Ba)|(go_at_call 109;refine(spec_l19Entering X _ _ (HR5.out.below bel) HOX.out).mono ?_;rintro e w1 ⟨hg1,Ba⟩;obtain⟨A1,c1,rfl,hk1,hr1⟩:=hg1.read;obtain⟨Ca,Fa,Za⟩:=bcell Ba;(try simp only[szs] at Za);have Bb:=far2;obtain⟨Cb,Fb,Zb⟩:=bcell Bb;(try simp only[szs] at Zb);try (first|obtain⟨Ya,Yb,Yc,Yd⟩:=lts4 Zb|obtain⟨Ya,Yb,Yc⟩:=lts3 Zb|obtain⟨Ya,Yb⟩:=lts2 Zb|have Ya:=lts1 Zb);have hb9:=Ba))
      all_goals
       have hb6:Below w5.heap.size w5 w1:=bel
       repeat (first|clear Ca|clear Fa|clear Za|clear Ba|clear hb9|clear Cb|clear Fb|clear Zb|clear Bb|clear Ya|clear Yb|clear Yc|clear Yd)
       obtain⟨w6,rfl⟩:∃ z,z=w1:=⟨_,rfl⟩
       have HR6:=Lib.hid (HR5.out.below hb6)
       have HB6:=Lib.hid (HB5.out.below hb6)
       have HW6:Hid (Below w.heap.size w w6):=Lib.hid (bw_then HW5.out hb6)
       have box11:Box w6 bx #[.int .i64 X.mesh.g.w,.int .i64 X.mesh.g.h,.slice p1 X.mesh.br.length r1,.slice p2 X.pa.length r2,.slice p3 X.pb.length r3,.slice p4 X.bufs.length r4,.slice p5 X.owners.length r5,.slice p6 X.turns.length r6,.slice p7 X.srcs.length r7,.slice p8 X.arrs.length r8,.int .i64 X.time]:=HB6.out.box
       obtain⟨zq0,zq1,zq2,zq3,zq4,zq5,zq6,zq7,zq8,zq9,zq10⟩:=all11 box11
       clear box11
       have zl9:=HB6.out.lt
       go_wp2_with fail
       refine(spec_l19Step X ⟨p1,p2,p3,p4,p5,p6,p7,p8,r1,r2,r3,r4,r5,r6,r7,r8⟩ _ HR6.out HOX.out).mono ?_
       rintro e w4 ⟨hg4,hb4⟩
       obtain⟨q4,y4,y7,y8,rfl,HN0⟩:=hg4
       obtain⟨s1,s2,s3,s4,s5,s6,s7,s8,t1,t2,t3,t4,t5,t6,t7,t8⟩:=q4
       dsimp only [netCells]
       have HN4:=Lib.hid HN0
       have HB4:Hid (BN w4 bx):=Lib.hid ((HB6.out.below hb4).bn)
       have HW4:Hid (Below w.heap.size w w4):=Lib.hid (bw_then HW6.out hb4)
       clear HN0 hb4
       repeat (first|clear z0|clear z1|clear z2|clear z3|clear z4|clear z5|clear z6|clear z7|clear z8|clear z9|clear z10|clear zq0|clear zq1|clear zq2|clear zq3|clear zq4|clear zq5|clear zq6|clear zq7|clear zq8|clear zq9|clear zq10)
       obtain⟨⟨ry0,rv0⟩,⟨ry1,rv1⟩,⟨ry2,rv2⟩,⟨ry3,rv3⟩,⟨ry4,rv4⟩,⟨ry5,rv5⟩,⟨ry6,rv6⟩,⟨ry7,rv7⟩,⟨ry8,rv8⟩,⟨ry9,rv9⟩,⟨ry10,rv10⟩,rz0,rz1,rz2,rz3,rz4,rz5,rz6,rz7,rz8,rz9,rz10⟩:=allBN HB4.out
       obtain⟨Y,hY⟩:∃ Y,stepN X=Y:=⟨_,rfl⟩
       rw[hY] at HN4 HSX HNX
       try rw[hY]
       clear hY
       go_wp2
       obtain⟨W9,e9⟩:∃ z,z=putN w4 bx Y ⟨s1,s2,s3,s4,s5,s6,s7,s8,t1,t2,t3,t4,t5,t6,t7,t8⟩:=⟨_,rfl⟩
       have HB9:Hid (BT W9 bx Y ⟨s1,s2,s3,s4,s5,s6,s7,s8,t1,t2,t3,t4,t5,t6,t7,t8⟩):=Lib.hid (by rw[e9];exact putN_BT HB4.out)
       have HN9:=Lib.hid (show NX W9 _ Y ⟨s1,s2,s3,s4,s5,s6,s7,s8,t1,t2,t3,t4,t5,t6,t7,t8⟩ y4 y7 y8 from by rw[e9];exact HN4.out.put HB4.out)
       have HL9:Hid (Below w.heap.size w W9):=Lib.hid (by rw[e9];exact below_put HW4.out sbx)
       unfold putN at e9
       try dsimp only at e9
       rw[←e9]
       clear e9
       go_roundw
       case rel=>exact⟨k+1,⟨s1,s2,s3,s4,s5,s6,s7,s8,t1,t2,t3,t4,t5,t6,t7,t8⟩,by go_num,by omega,Lib.hid (by rw[HSX.out];exact HN9.out.reads HNX.out),Lib.hid (by rw[HSX.out];exact HB9.out),Lib.hid HL9.out,Lib.hid HI4.out⟩
       case measure=>simp[intOf];omega
    ·have HI4:=Lib.hid (HI1.out hi)
     go_wp2_with fail
     refine(spec_l20Idle X ⟨p1,p2,p3,p4,p5,p6,p7,p8,r1,r2,r3,r4,r5,r6,r7,r8⟩ _ HRk.out).mono ?_
     rintro e w5 ⟨he,hb5⟩
     rw[hi] at he
     subst he
     have HR5:=Lib.hid (HRk.out.below hb5)
     have HB5:=Lib.hid (HBk.out.below hb5)
     have HW5:Hid (Below w.heap.size w w5):=Lib.hid (bw_then HWk.out hb5)
     go_wp2
     go_ret
     exact⟨ret_int HI4.out.symm,HW5.out⟩
   ·obtain rfl:k=401:=by omega
    have HI2:Hid (toIdleN n=-1):=Lib.hid (HT.out.trans HIk.out)
    go_wp2
    go_ret
    exact⟨ret_int HI2.out.symm,HWk.out⟩
theorem toIdle_nonneg {n:Net} (h:0≤toIdleN n):netOk n=true∧n.time+400≤1000000∧toIdleN n≤400:=by
  refine⟨?_,?_,(toIdle_range n).2⟩
  · cases hk:netOk n
    · simp[toIdleN,hk] at h
    · rfl
  · unfold toIdleN at h
    split at h
    · split at h
      · assumption
      · omega
    · omega
set_option maxHeartbeats 8000000 in
set_option maxRecDepth 100000 in
theorem spec_RunToIdle (n:Net) (q:NA) (w:World) (hr:NetR 153 w n q) (hA:∀ x∈n.arrs,x.length≤1048576) :
  Calls Tryz.prog 103 #[.agg (netCells n q)] w fun e w'=>GotNV w w' (runIdleN n) (.bool (decide (0≤toIdleN n))) e∧Below w.heap.size w w':=by
 have HA:=Lib.hid hA
 clear hA
 have HR:=Lib.hid hr
 have NBQ:=Lib.hid hr.nb
 obtain⟨a1,a2,a3,a4,a5,a6,a7,a8,c1,c2,c3,c4,c5,c6,c7,c8⟩:=q
 clear hr
 dsimp only [netCells]
 have HC:Hid (∀ W:World,Below w.heap.size w W→Calls Tryz.prog 48 #[.agg #[.int .i64 n.mesh.g.w,.int .i64 n.mesh.g.h,.slice a1 n.mesh.br.length c1,.slice a2 n.pa.length c2,.slice a3 n.pb.length c3,.slice a4 n.bufs.length c4,.slice a5 n.owners.length c5,.slice a6 n.turns.length c6,.slice a7 n.srcs.length c7,.slice a8 n.arrs.length c8,.int .i64 n.time]] W fun e w'=>e=.returned (.int .i64 (toIdleN n))∧Below W.heap.size W w'):=Lib.hid (fun W hb=>spec_StepsToIdle n ⟨a1,a2,a3,a4,a5,a6,a7,a8,c1,c2,c3,c4,c5,c6,c7,c8⟩ W (HR.out.below hb) HA.out)
 have HP:Hid (0≤toIdleN n→netOk n=true∧n.time+400≤1000000∧toIdleN n≤400):=Lib.hid toIdle_nonneg
 have H1:Hid (0≤toIdleN n→runIdleN n=runN n (toIdleN n).toNat):=Lib.hid (fun h=>by unfold runIdleN;rw[if_pos h])
 have H2:Hid (¬ 0≤toIdleN n→runIdleN n=n):=Lib.hid (fun h=>by unfold runIdleN;rw[if_neg h])
 obtain⟨Y,hY⟩:∃ Y,runIdleN n=Y:=⟨_,rfl⟩
 obtain⟨t,ht⟩:∃ t,toIdleN n=t:=⟨_,rfl⟩
 rw[ht] at HC HP H1 H2
 rw[hY] at H1 H2
 rw[hY,ht]
 clear hY ht
 by_cases h0:0≤t
 case neg=>
  have HE:=Lib.hid (H2.out h0)
  have HD:Hid (decide (0≤t)=false):=Lib.hid (decide_eq_false h0)
  have h1:t<0:=by omega
  clear h0
  go_enter Tryz.func103,Tryz.ntmps103
  go_wp2_with fail
  refine(HC.out _ bel).mono ?_
  rintro e w2 ⟨rfl,Bb⟩
  have HX2:Hid (Box w2 w.heap.size #[.int .i64 n.mesh.g.w,.int .i64 n.mesh.g.h,.slice a1 n.mesh.br.length c1,.slice a2 n.pa.length c2,.slice a3 n.pb.length c3,.slice a4 n.bufs.length c4,.slice a5 n.owners.length c5,.slice a6 n.turns.length c6,.slice a7 n.srcs.length c7,.slice a8 n.arrs.length c8,.int .i64 n.time]):=Lib.hid (((Box.new w w.heap.size #[.int .i64 n.mesh.g.w,.int .i64 n.mesh.g.h,.slice a1 n.mesh.br.length c1,.slice a2 n.pa.length c2,.slice a3 n.pb.length c3,.slice a4 n.bufs.length c4,.slice a5 n.owners.length c5,.slice a6 n.turns.length c6,.slice a7 n.srcs.length c7,.slice a8 n.arrs.length c8,.int .i64 n.time] 42 rfl).alloc _).below Bb)
  have HZ0:Hid (BN ((w.alloc (.cells #[.int .i64 n.mesh.g.w,.int .i64 n.mesh.g.h,.slice a1 n.mesh.br.length c1,.slice a2 n.pa.length c2,.slice a3 n.pb.length c3,.slice a4 n.bufs.length c4,.slice a5 n.owners.length c5,.slice a6 n.turns.length c6,.slice a7 n.srcs.length c7,.slice a8 n.arrs.length c8,.int .i64 n.time] 42)).alloc (.cells #[.int .i64 0,.int .i64 0,.slice none 0 0,.slice none 0 0,.slice none 0 0,.slice none 0 0,.slice none 0 0,.slice none 0 0,.slice none 0 0,.slice none 0 0,.int .i64 0] 42)) (w.heap.size+1)):=Lib.hid ((BT.bn (by have hn:=BT.new (w.alloc (.cells #[.int .i64 n.mesh.g.w,.int .i64 n.mesh.g.h,.slice a1 n.mesh.br.length c1,.slice a2 n.pa.length c2,.slice a3 n.pb.length c3,.slice a4 n.bufs.length c4,.slice a5 n.owners.length c5,.slice a6 n.turns.length c6,.slice a7 n.srcs.length c7,.slice a8 n.arrs.length c8,.int .i64 n.time] 42)) ⟨⟨⟨0,0⟩,[]⟩,[],[],[],[],[],[],[],0⟩ ⟨none,none,none,none,none,none,none,none,0,0,0,0,0,0,0,0⟩;rw[World.size_alloc] at hn;exact hn)))
  have HZ2:Hid (BN w2 (w.heap.size+1)):=Lib.hid (HZ0.out.below Bb)
  have HWB:Hid (Below w.heap.size w w2):=Lib.hid (bw_then (bw_alloc _ (bw_alloc _ (bw_refl w))) Bb)
  have zz2:=bw_size Bb
  simp only[szs] at zz2
  clear Bb HZ0
  have box11:Box w2 w.heap.size #[.int .i64 n.mesh.g.w,.int .i64 n.mesh.g.h,.slice a1 n.mesh.br.length c1,.slice a2 n.pa.length c2,.slice a3 n.pb.length c3,.slice a4 n.bufs.length c4,.slice a5 n.owners.length c5,.slice a6 n.turns.length c6,.slice a7 n.srcs.length c7,.slice a8 n.arrs.length c8,.int .i64 n.time]:=HX2.out
  obtain⟨x0,x1,x2,x3,x4,x5,x6,x7,x8,x9,x10⟩:=all11 box11
  clear box11
  have xl:=HX2.out.lt
  go_wp2_with fail
  refine(spec_l15Copy n _ _ (HR.out.below HWB.out)).mono ?_
  rintro e w4 ⟨hg4,hb4⟩
  obtain⟨q4,y4,y7,y8,rfl,HN0⟩:=hg4
  obtain⟨p1,p2,p3,p4,p5,p6,p7,p8,r1,r2,r3,r4,r5,r6,r7,r8⟩:=q4
  dsimp only [netCells]
  have HN4:=Lib.hid HN0
  have HZ4:Hid (BN w4 (w.heap.size+1)):=Lib.hid (HZ2.out.below hb4)
  have HWB4:Hid (Below w.heap.size w w4):=Lib.hid (bw_then HWB.out hb4)
  have zz4:=bw_size hb4
  have zz5:=bw_size HWB.out
  clear HN0 hb4
  repeat (first|clear x0|clear x1|clear x2|clear x3|clear x4|clear x5|clear x6|clear x7|clear x8|clear x9|clear x10)

  obtain⟨⟨ry0,rv0⟩,⟨ry1,rv1⟩,⟨ry2,rv2⟩,⟨ry3,rv3⟩,⟨ry4,rv4⟩,⟨ry5,rv5⟩,⟨ry6,rv6⟩,⟨ry7,rv7⟩,⟨ry8,rv8⟩,⟨ry9,rv9⟩,⟨ry10,rv10⟩,rz0,rz1,rz2,rz3,rz4,rz5,rz6,rz7,rz8,rz9,rz10⟩:=allBN HZ4.out
  go_wp2
  obtain⟨W9,e9⟩:∃ z,z=putN w4 (w.heap.size+1) n ⟨p1,p2,p3,p4,p5,p6,p7,p8,r1,r2,r3,r4,r5,r6,r7,r8⟩:=⟨_,rfl⟩
  have HB9:Hid (BT W9 (w.heap.size+1) n ⟨p1,p2,p3,p4,p5,p6,p7,p8,r1,r2,r3,r4,r5,r6,r7,r8⟩):=Lib.hid (by rw[e9];exact putN_BT HZ4.out)
  have HN9:=Lib.hid (show NX W9 _ n ⟨p1,p2,p3,p4,p5,p6,p7,p8,r1,r2,r3,r4,r5,r6,r7,r8⟩ y4 y7 y8 from by rw[e9];exact HN4.out.put HZ4.out)
  have HL9:Hid (Below w.heap.size w W9):=Lib.hid (by rw[e9];exact below_put HWB4.out (by omega))
  unfold putN at e9
  try dsimp only at e9
  rw[←e9]
  clear e9
  exact bodyPost_ret (results_cell_row2 Tryz.results103 _ _ ((w.heap.size+1)) 42 _ (0,0) _ rfl HB9.out Tryz.underlying42 rfl (by kernel_rfl)) rfl (by dsimp only;rw[HE.out,HD.out];exact⟨⟨_,_,_,_,rfl,HN9.out.lower (by omega)⟩,HL9.out⟩)
 case pos=>
  have HE0:=Lib.hid (H1.out h0)
  have HD:Hid (decide (0≤t)=true):=Lib.hid (decide_eq_true h0)
  obtain⟨ok,st,t4⟩:=HP.out h0
  obtain⟨T,hT⟩:∃ T:Nat,t=(T:Int):=⟨t.toNat,by omega⟩
  subst hT
  have HE:Hid (Y=runN n T):=Lib.hid (by have:=HE0.out;rwa [Int.toNat_natCast] at this)
  have OK:=Lib.hid ok
  have h1:¬ (T:Int)<0:=by omega
  clear h0
  go_enter Tryz.func103,Tryz.ntmps103
  go_wp2_with fail
  refine(HC.out _ bel).mono ?_
  rintro e w2 ⟨rfl,Bb⟩
  have HX2:Hid (Box w2 w.heap.size #[.int .i64 n.mesh.g.w,.int .i64 n.mesh.g.h,.slice a1 n.mesh.br.length c1,.slice a2 n.pa.length c2,.slice a3 n.pb.length c3,.slice a4 n.bufs.length c4,.slice a5 n.owners.length c5,.slice a6 n.turns.length c6,.slice a7 n.srcs.length c7,.slice a8 n.arrs.length c8,.int .i64 n.time]):=Lib.hid (((Box.new w w.heap.size #[.int .i64 n.mesh.g.w,.int .i64 n.mesh.g.h,.slice a1 n.mesh.br.length c1,.slice a2 n.pa.length c2,.slice a3 n.pb.length c3,.slice a4 n.bufs.length c4,.slice a5 n.owners.length c5,.slice a6 n.turns.length c6,.slice a7 n.srcs.length c7,.slice a8 n.arrs.length c8,.int .i64 n.time] 42 rfl).alloc _).below Bb)
  have HZ0:Hid (BN ((w.alloc (.cells #[.int .i64 n.mesh.g.w,.int .i64 n.mesh.g.h,.slice a1 n.mesh.br.length c1,.slice a2 n.pa.length c2,.slice a3 n.pb.length c3,.slice a4 n.bufs.length c4,.slice a5 n.owners.length c5,.slice a6 n.turns.length c6,.slice a7 n.srcs.length c7,.slice a8 n.arrs.length c8,.int .i64 n.time] 42)).alloc (.cells #[.int .i64 0,.int .i64 0,.slice none 0 0,.slice none 0 0,.slice none 0 0,.slice none 0 0,.slice none 0 0,.slice none 0 0,.slice none 0 0,.slice none 0 0,.int .i64 0] 42)) (w.heap.size+1)):=Lib.hid ((BT.bn (by have hn:=BT.new (w.alloc (.cells #[.int .i64 n.mesh.g.w,.int .i64 n.mesh.g.h,.slice a1 n.mesh.br.length c1,.slice a2 n.pa.length c2,.slice a3 n.pb.length c3,.slice a4 n.bufs.length c4,.slice a5 n.owners.length c5,.slice a6 n.turns.length c6,.slice a7 n.srcs.length c7,.slice a8 n.arrs.length c8,.int .i64 n.time] 42)) ⟨⟨⟨0,0⟩,[]⟩,[],[],[],[],[],[],[],0⟩ ⟨none,none,none,none,none,none,none,none,0,0,0,0,0,0,0,0⟩;rw[World.size_alloc] at hn;exact hn)))
  have HZ2:Hid (BN w2 (w.heap.size+1)):=Lib.hid (HZ0.out.below Bb)
  have HWB:Hid (Below w.heap.size w w2):=Lib.hid (bw_then (bw_alloc _ (bw_alloc _ (bw_refl w))) Bb)
  have zz2:=bw_size Bb
  simp only[szs] at zz2
  clear Bb HZ0
  have box11:Box w2 w.heap.size #[.int .i64 n.mesh.g.w,.int .i64 n.mesh.g.h,.slice a1 n.mesh.br.length c1,.slice a2 n.pa.length c2,.slice a3 n.pb.length c3,.slice a4 n.bufs.length c4,.slice a5 n.owners.length c5,.slice a6 n.turns.length c6,.slice a7 n.srcs.length c7,.slice a8 n.arrs.length c8,.int .i64 n.time]:=HX2.out
  obtain⟨x0,x1,x2,x3,x4,x5,x6,x7,x8,x9,x10⟩:=all11 box11
  clear box11
  have xl:=HX2.out.lt
  go_wp2_with fail
  refine(spec_l15Copy n _ _ (HR.out.below HWB.out)).mono ?_
  rintro e w4 ⟨hg4,hb4⟩
  obtain⟨q4,y4,y7,y8,rfl,HN0⟩:=hg4
  obtain⟨p1,p2,p3,p4,p5,p6,p7,p8,r1,r2,r3,r4,r5,r6,r7,r8⟩:=q4
  dsimp only [netCells]
  have HN4:=Lib.hid HN0
  have HZ4:Hid (BN w4 (w.heap.size+1)):=Lib.hid (HZ2.out.below hb4)
  have HWB4:Hid (Below w.heap.size w w4):=Lib.hid (bw_then HWB.out hb4)
  have zz4:=bw_size hb4
  have zz5:=bw_size HWB.out
  clear HN0 hb4
  repeat (first|clear x0|clear x1|clear x2|clear x3|clear x4|clear x5|clear x6|clear x7|clear x8|clear x9|clear x10)
  go_wp2_with fail
  refine(spec_l20Run n T _ y4 y7 y8 w2.heap.size _ HN4.out NBQ.out HA.out OK.out (by omega) (by omega) zz4).mono ?_
  rintro e w6 ⟨hg6,hb6⟩
  obtain⟨q6,i4,i7,i8,rfl,HN60⟩:=hg6
  obtain⟨s1,s2,s3,s4,s5,s6,s7,s8,t1,t2,t3,t4,t5,t6,t7,t8⟩:=q6
  dsimp only [netCells]
  have HN6:=Lib.hid HN60
  have HZ6:Hid (BN w6 (w.heap.size+1)):=Lib.hid (HZ4.out.below hb6)
  have HWB6:Hid (Below w.heap.size w w6):=Lib.hid (bw_then HWB4.out hb6)
  have zz6:=bw_size hb6
  clear HN60 hb6 HN4 HZ4 HWB4
  obtain⟨X,hX⟩:∃ X,runN n T=X:=⟨_,rfl⟩
  rw[hX] at HN6 HE
  try rw[hX]
  clear hX

  obtain⟨⟨ry0,rv0⟩,⟨ry1,rv1⟩,⟨ry2,rv2⟩,⟨ry3,rv3⟩,⟨ry4,rv4⟩,⟨ry5,rv5⟩,⟨ry6,rv6⟩,⟨ry7,rv7⟩,⟨ry8,rv8⟩,⟨ry9,rv9⟩,⟨ry10,rv10⟩,rz0,rz1,rz2,rz3,rz4,rz5,rz6,rz7,rz8,rz9,rz10⟩:=allBN HZ6.out
  go_wp2
  obtain⟨W9,e9⟩:∃ z,z=putN w6 (w.heap.size+1) X ⟨s1,s2,s3,s4,s5,s6,s7,s8,t1,t2,t3,t4,t5,t6,t7,t8⟩:=⟨_,rfl⟩
  have HB9:Hid (BT W9 (w.heap.size+1) X ⟨s1,s2,s3,s4,s5,s6,s7,s8,t1,t2,t3,t4,t5,t6,t7,t8⟩):=Lib.hid (by rw[e9];exact putN_BT HZ6.out)
  have HN9:=Lib.hid (show NX W9 _ X ⟨s1,s2,s3,s4,s5,s6,s7,s8,t1,t2,t3,t4,t5,t6,t7,t8⟩ i4 i7 i8 from by rw[e9];exact HN6.out.put HZ6.out)
  have HL9:Hid (Below w.heap.size w W9):=Lib.hid (by rw[e9];exact below_put HWB6.out (by omega))
  unfold putN at e9
  try dsimp only at e9
  rw[←e9]
  clear e9
  exact bodyPost_ret (results_cell_row2 Tryz.results103 _ _ ((w.heap.size+1)) 42 _ (0,0) _ rfl HB9.out Tryz.underlying42 rfl (by kernel_rfl)) rfl (by dsimp only;rw[HE.out,HD.out];exact⟨⟨_,_,_,_,rfl,HN9.out.lower (by omega)⟩,HL9.out⟩)
end Go.Proofs.YtodbglncccgdbaaGreat
namespace Go.Proofs.YtodbglncccgdbaaGreat
open NoC
theorem runIdle_nb {n:Net} (nb:NB n) (hA:∀ x∈n.arrs,x.length≤1048576):NB (runIdleN n):=by
  unfold runIdleN
  split
  · rename_i h
    obtain⟨ok,st,t4⟩:=toIdle_nonneg h
    exact run_nb nb hA _ (by omega) (runN_ok ok _ (by omega))
  · exact nb
end Go.Proofs.YtodbglncccgdbaaGreat
namespace NoC
def isW (l:List Flit) (i:Nat):Bool:=
  decide ((rf l i).pk=(rf l 0).pk) && decide ((rf l i).dst=(rf l 0).dst) && decide ((rf l i).cls=(rf l 0).cls) && ((rf l i).head == decide (i=0)) && ((rf l i).tail == decide (i+1=l.length))
def wholeTo (l:List Flit):Nat→Bool
  | 0=>true
  | k+1=>wholeTo l k && isW l k
def wholeF (l:List Flit):Bool:=decide (0<l.length) && wholeTo l l.length
theorem wholeTo_miss {l:List Flit} {k:Nat} (h:isW l k=false):∀ j:Nat,k<j→wholeTo l j=false:=by
  intro j
  induction j with
  | zero=>intro h;omega
  | succ j ih=>
    intro h1
    by_cases e:k=j
    · subst e;simp[wholeTo,h]
    · simp[wholeTo,ih (by omega)]
theorem wholeF_miss {l:List Flit} {k:Nat} (hk:k<l.length) (h:isW l k=false):wholeF l=false:=by simp[wholeF,wholeTo_miss h l.length hk]
theorem wholeF_0 {l:List Flit} (h:l.length=0):wholeF l=false:=by simp[wholeF,h]
theorem wholeF_all {l:List Flit} (h0:0<l.length) (h:wholeTo l l.length=true):wholeF l=true:=by simp[wholeF,h,h0]
theorem wholeTo_at {l:List Flit}:∀ (j k:Nat),k<j→wholeTo l j=true→isW l k=true:=by
  intro j
  induction j with
  | zero=>intro k h;omega
  | succ j ih=>
    intro k hk h
    simp only[wholeTo,Bool.and_eq_true] at h
    by_cases e:k=j
    · subst e;exact h.2
    · exact ih k (by omega) h.1
theorem wholeF_pk {l:List Flit} (h:wholeF l=true) {k:Nat} (hk:k<l.length):(rf l k).pk=(rf l 0).pk:=by
  simp only[wholeF,Bool.and_eq_true] at h
  have:=wholeTo_at _ k hk h.2
  simp only[isW,Bool.and_eq_true,decide_eq_true_eq] at this
  exact this.1.1.1.1
def wpAt (l:List Flit):Nat→List Int × Nat
  | 0=>([],0)
  | k+1=>if wholeF ((l.take (k+1)).drop (wpAt l k).2)=true then ((wpAt l k).1++[(rf l ((wpAt l k).2:Nat)).pk],k+1) else wpAt l k
theorem wpAt_le (l:List Flit) (k:Nat):(wpAt l k).2≤k∧(wpAt l k).1.length≤k:=by
  induction k with
  | zero=>simp[wpAt]
  | succ k ih=>
    unfold wpAt
    split
    · simp;omega
    · omega
theorem wpAt_yes {l:List Flit} {k f:Nat} {ids:List Int} (e:wpAt l k=(ids,f)) (h:wholeF ((l.take (k+1)).drop f)=true):wpAt l (k+1)=(ids++[(rf l f).pk],k+1):=by
  rw[wpAt,e,if_pos h]
theorem wpAt_no {l:List Flit} {k f:Nat} {ids:List Int} (e:wpAt l k=(ids,f)) (h:wholeF ((l.take (k+1)).drop f)=false):wpAt l (k+1)=(ids,f):=by
  rw[wpAt,e,if_neg (by simp[h])]
theorem rf_mid {l:List Flit} {f k:Nat} {j:Nat} (hk:k≤l.length) (hj:f+j<k):rf ((l.take k).drop f) (j:Int)=rf l ((f+j:Nat):Int):=by
  unfold rf
  simp only[Int.toNat_natCast,List.getD_eq_getElem?_getD,List.getElem?_drop,List.getElem?_take]
  rw[if_pos hj]
theorem wpAt_same {l:List Flit} {k f:Nat} (hf:f≤k) (hk:k<l.length) (h:wholeF ((l.take (k+1)).drop f)=true):(rf l k).pk=(rf l f).pk:=by
  have hl:((l.take (k+1)).drop f).length=k+1 - f:=by rw[List.length_drop,List.length_take];omega
  have h1:=wholeF_pk h (k:=k - f) (by omega)
  rw[rf_mid (by omega) (by omega)] at h1
  have h2:rf ((l.take (k+1)).drop f) (0:Int)=rf l (f:Int):=by
    have:=rf_mid (l:=l) (f:=f) (k:=k+1) (j:=0) (by omega) (by omega)
    simpa using this
  rw[h2,show f+(k - f)=k by omega] at h1
  exact h1
def wholeB (l:List Flit):Bool:=!decide ((wpAt l l.length).2<l.length)
def wholeP (l:List Flit):List Int:=if (wpAt l l.length).2<l.length then [] else (wpAt l l.length).1
theorem wholeP_no {l:List Flit} {ids:List Int} {f:Nat} (e:wpAt l l.length=(ids,f)) (h:f<l.length):wholeP l=[]∧wholeB l=false:=by simp[wholeP,wholeB,e,h]
theorem wholeP_yes {l:List Flit} {ids:List Int} {f:Nat} (e:wpAt l l.length=(ids,f)) (h:¬ f<l.length):wholeP l=ids∧wholeB l=true:=by simp[wholeP,wholeB,e,h]
def trimTo (l:List Flit):Nat→Nat
  | 0=>0
  | k+1=>if (rf l k).tail=true then k+1 else trimTo l k
theorem trimTo_le (l:List Flit) (k:Nat):trimTo l k≤k:=by
  induction k with
  | zero=>simp[trimTo]
  | succ k ih=>unfold trimTo;split <;> omega
def trimF (l:List Flit):List Flit:=l.take (trimTo l l.length)
end NoC
namespace Go.Proofs.YtodbglncccgdbaaGreatW.PrintWords
open Go.RowKit
section
variable {P:Program} {d:Nat} {xs ys:Array Value} {f:Field} {fs:List Field} {a b:Value} {r s:Bool} {w:World}
end
end Go.Proofs.YtodbglncccgdbaaGreatW.PrintWords
namespace Go.Proofs.YtodbglncccgdbaaGreat
open Go.RowKit Go.Proofs.YtodbglncccgdbaaGreatW.PrintWords
open NoC
theorem isW_of {l:List Flit} {i:Nat} {b0 b1 h t:Bool} (e0:(rf l i).pk=(rf l 0).pk) (e1:(rf l i).dst=(rf l 0).dst) (e2:(rf l i).cls=(rf l 0).cls) (d0:decide (i=0)=b0) (d1:decide (i+1=l.length)=b1) (hh:(rf l i).head=h) (ht:(rf l i).tail=t):isW l i=((h == b0) && (t == b1)):=by
  simp[isW,e0,e1,e2,d0,d1,hh,ht]
theorem isW_0 {l:List Flit} {i:Nat} (h:¬ (rf l i).pk=(rf l 0).pk):isW l i=false:=by simp[isW,h]
theorem isW_1 {l:List Flit} {i:Nat} (h:¬ (rf l i).dst=(rf l 0).dst):isW l i=false:=by simp[isW,h]
theorem isW_2 {l:List Flit} {i:Nat} (h:¬ (rf l i).cls=(rf l 0).cls):isW l i=false:=by simp[isW,h]

set_option maxHeartbeats 8000000 in
set_option maxRecDepth 100000 in
theorem impl_IsWhole (l:List Flit) (A:Option Addr) (c:Nat) (w:World) (hr:kF.C w A l.length l) (hn:l.length≤2097152) :
  Calls Tryz.prog 179 #[.slice A l.length c] w fun e w'=>e=.returned (.bool (wholeF l))∧Below w.heap.size w w':=by
 have R:=Lib.hid hr
 clear hr
 by_cases hz:l.length=0
 ·have HE:=Lib.hid (wholeF_0 hz)
  have f0:¬ (0:Int)<(l.length:Int):=by omega
  clear hz
  go_enter Tryz.func179,Tryz.ntmps179
  go_wp2
  go_loopw [7] (fun i wr=>i=.int .i64 0∧Below w.heap.size w wr) (fun _ _=>0)
  case atStart=>exact⟨rfl,bel⟩
  case round=>
   obtain⟨rfl,HB⟩:=hrel
   go_wp2
   go_ret
   exact⟨ret_bool HE.out.symm,bel⟩
 have f9:(0:Int)<(l.length:Int):=by omega
 go_enter Tryz.func179,Tryz.ntmps179
 go_wp2
 go_loopw [7] (fun i wr=>∃ k:Nat,i=.int .i64 k∧k≤l.length∧Hid (wholeTo l k=true)∧Below w.heap.size w wr) (fun i _=>l.length - (intOf i).toNat)
 case atStart=>exact⟨0,rfl,Nat.zero_le _,Lib.hid rfl,bel⟩
 case round=>
  obtain⟨k,rfl,hk,HT,HB⟩:=hrel
  have HC:=Lib.hid (Kd.C_below R.out HB)
  by_cases hlt:k<l.length
  ·obtain⟨b,off,rfl,hb,p0,p1,p2,p3,p4⟩:=rdFl_at HC.out k hlt
   obtain⟨b',off',hA,_,q0,q1,q2,_,_⟩:=rdFl_at HC.out 0 (by omega)
   injection hA with hA
   injection hA with hA1 hA2
   subst hA1 hA2
   clear HC
   simp only[Nat.zero_mul,Nat.add_zero,Int.natCast_zero,Int.ofNat_zero] at q0 q1 q2
   obtain⟨x0,h0⟩:∃ x,(rf l (k:Int)).pk=x:=⟨_,rfl⟩
   obtain⟨x1,h1⟩:∃ x,(rf l (k:Int)).dst=x:=⟨_,rfl⟩
   obtain⟨x2,h2⟩:∃ x,(rf l (k:Int)).cls=x:=⟨_,rfl⟩
   obtain⟨x3,h3⟩:∃ x,(rf l (k:Int)).head=x:=⟨_,rfl⟩
   obtain⟨x4,h4⟩:∃ x,(rf l (k:Int)).tail=x:=⟨_,rfl⟩
   obtain⟨y0,g0⟩:∃ x,(rf l 0).pk=x:=⟨_,rfl⟩
   obtain⟨y1,g1⟩:∃ x,(rf l 0).dst=x:=⟨_,rfl⟩
   obtain⟨y2,g2⟩:∃ x,(rf l 0).cls=x:=⟨_,rfl⟩
   rw[h0] at p0
   rw[h1] at p1
   rw[h2] at p2
   rw[h3] at p3
   rw[h4] at p4
   rw[g0] at q0
   rw[g1] at q1
   rw[g2] at q2
   have b1:b<wr.heap.size:=by have:=bw_size HB;omega
   have bne:b≠wr.heap.size:=by omega
   by_cases e0:x0=y0
   ·by_cases e1:x1=y1
    ·by_cases e2:x2=y2
     ·obtain⟨d0,hd0⟩:∃ d,decide (k=0)=d:=⟨_,rfl⟩
      obtain⟨d1,hd1⟩:∃ d,decide (k+1=l.length)=d:=⟨_,rfl⟩
      have HI:=Lib.hid (isW_of (h0.trans (e0.trans g0.symm)) (h1.trans (e1.trans g1.symm)) (h2.trans (e2.trans g2.symm)) hd0 hd1 h3 h4)
      have f0:((k:Int) == 0)=d0:=by rw[←hd0];by_cases h:k=0 <;> simp[h]
      have f1:((k:Int) == (l.length:Int) - 1)=d1:=by
       rw[←hd1]
       by_cases h:k+1=l.length
       ·have h':(k:Int)=(l.length:Int) - 1:=by omega
        simp[h,h']
       ·have h':¬ (k:Int)=(l.length:Int) - 1:=by omega
        simp[h,h']
      subst e0 e1 e2
      clear h0 h1 h2 h3 h4 g0 g1 g2 hd0 hd1
      cases hg:((x3 == d0) && (x4 == d1))
      ·have HM:=Lib.hid (wholeF_miss hlt (HI.out.trans hg))
       clear HT HI
       cases x3 <;> cases d0 <;> cases x4 <;> cases d1 <;> first|(exact absurd hg (by decide))|(clear hg;go_wp2;go_quiet (fail);go_wp2;go_ret;exact⟨ret_bool HM.out.symm,bel⟩)
      ·have HM:Hid (wholeTo l (k+1)=true):=Lib.hid (by rw[wholeTo,HT.out,HI.out,hg];rfl)
       clear HT HI
       cases x3 <;> cases d0 <;> cases x4 <;> cases d1 <;> first|(exact absurd hg (by decide))|(clear hg;go_wp2;go_quiet (fail);go_wp2;go_roundw;(case rel=>exact⟨k+1,by go_num,by omega,HM,bel⟩);(case measure=>simp[intOf];omega))
     ·have HI:=isW_2 (l:=l) (i:=k) (by rw[h2,g2];exact e2)
      clear h0 h1 h2 h3 h4 g0 g1 g2
      have f5:(x2 != y2)=true:=bne_iff_ne.2 e2
      have HM:=Lib.hid (wholeF_miss hlt (HI))
      clear HI
      clear HT
      go_wp2
      go_quiet (fail)
      go_wp2
      go_ret
      exact⟨ret_bool HM.out.symm,bel⟩
    ·have HI:=isW_1 (l:=l) (i:=k) (by rw[h1,g1];exact e1)
     clear h0 h1 h2 h3 h4 g0 g1 g2
     have f5:(x1 != y1)=true:=bne_iff_ne.2 e1
     have HM:=Lib.hid (wholeF_miss hlt (HI))
     clear HI
     clear HT
     go_wp2
     go_quiet (fail)
     go_wp2
     go_ret
     exact⟨ret_bool HM.out.symm,bel⟩
   ·have HI:=isW_0 (l:=l) (i:=k) (by rw[h0,g0];exact e0)
    clear h0 h1 h2 h3 h4 g0 g1 g2
    have f5:(x0 != y0)=true:=bne_iff_ne.2 e0
    have HM:=Lib.hid (wholeF_miss hlt (HI))
    clear HI
    clear HT
    go_wp2
    go_quiet (fail)
    go_wp2
    go_ret
    exact⟨ret_bool HM.out.symm,bel⟩
  ·obtain rfl:k=l.length:=by omega
   have HM:=Lib.hid (wholeF_all (by omega) HT.out)
   go_wp2
   go_ret
   exact⟨ret_bool ((decide_eq_true (by omega)).trans HM.out.symm),bel⟩
set_option maxHeartbeats 8000000 in
set_option maxRecDepth 100000 in
theorem spec_IsWhole (l:List Flit) (A:Option Addr) (c:Nat) (w:World) (hr:kF.C w A l.length l) (hn:l.length≤2097152) :
  Calls Tryz.prog 229 #[.slice A l.length c] w fun e w'=>e=.returned (.bool (wholeF l))∧Below w.heap.size w w':=by
 have R:=Lib.hid hr
 clear hr
 by_cases hz:l.length=0
 ·have HE:=Lib.hid (wholeF_0 hz)
  have f0:¬ (0:Int)<(l.length:Int):=by omega
  clear hz
  go_enter Tryz.func229,Tryz.ntmps229
  go_wp2
  go_loopw [3] (fun i wr=>i=.int .i64 0∧Below w.heap.size w wr) (fun _ _=>0)
  case atStart=>exact⟨rfl,bel⟩
  case round=>
   obtain⟨rfl,HB⟩:=hrel
   go_wp2
   go_ret
   exact⟨ret_bool HE.out.symm,bel⟩
 have f9:(0:Int)<(l.length:Int):=by omega
 go_enter Tryz.func229,Tryz.ntmps229
 go_wp2
 go_loopw [3] (fun i wr=>∃ k:Nat,i=.int .i64 k∧k≤l.length∧Hid (wholeTo l k=true)∧Below w.heap.size w wr) (fun i _=>l.length - (intOf i).toNat)
 case atStart=>exact⟨0,rfl,Nat.zero_le _,Lib.hid rfl,bel⟩
 case round=>
  obtain⟨k,rfl,hk,HT,HB⟩:=hrel
  have HC:=Lib.hid (Kd.C_below R.out HB)
  by_cases hlt:k<l.length
  ·obtain⟨b,off,rfl,hb,p0,p1,p2,p3,p4⟩:=rdFl_at HC.out k hlt
   obtain⟨b',off',hA,_,q0,q1,q2,_,_⟩:=rdFl_at HC.out 0 (by omega)
   injection hA with hA
   injection hA with hA1 hA2
   subst hA1 hA2
   clear HC
   simp only[Nat.zero_mul,Nat.add_zero,Int.natCast_zero,Int.ofNat_zero] at q0 q1 q2
   obtain⟨x0,h0⟩:∃ x,(rf l (k:Int)).pk=x:=⟨_,rfl⟩
   obtain⟨x1,h1⟩:∃ x,(rf l (k:Int)).dst=x:=⟨_,rfl⟩
   obtain⟨x2,h2⟩:∃ x,(rf l (k:Int)).cls=x:=⟨_,rfl⟩
   obtain⟨x3,h3⟩:∃ x,(rf l (k:Int)).head=x:=⟨_,rfl⟩
   obtain⟨x4,h4⟩:∃ x,(rf l (k:Int)).tail=x:=⟨_,rfl⟩
   obtain⟨y0,g0⟩:∃ x,(rf l 0).pk=x:=⟨_,rfl⟩
   obtain⟨y1,g1⟩:∃ x,(rf l 0).dst=x:=⟨_,rfl⟩
   obtain⟨y2,g2⟩:∃ x,(rf l 0).cls=x:=⟨_,rfl⟩
   rw[h0] at p0
   rw[h1] at p1
   rw[h2] at p2
   rw[h3] at p3
   rw[h4] at p4
   rw[g0] at q0
   rw[g1] at q1
   rw[g2] at q2
   have b1:b<wr.heap.size:=by have:=bw_size HB;omega
   have bne:b≠wr.heap.size:=by omega
   by_cases e0:x0=y0
   ·by_cases e1:x1=y1
    ·by_cases e2:x2=y2
     ·obtain⟨d0,hd0⟩:∃ d,decide (k=0)=d:=⟨_,rfl⟩
      obtain⟨d1,hd1⟩:∃ d,decide (k+1=l.length)=d:=⟨_,rfl⟩
      have HI:=Lib.hid (isW_of (h0.trans (e0.trans g0.symm)) (h1.trans (e1.trans g1.symm)) (h2.trans (e2.trans g2.symm)) hd0 hd1 h3 h4)
      have f0:((k:Int) == 0)=d0:=by rw[←hd0];by_cases h:k=0 <;> simp[h]
      have f1:((k:Int) == (l.length:Int) - 1)=d1:=by
       rw[←hd1]
       by_cases h:k+1=l.length
       ·have h':(k:Int)=(l.length:Int) - 1:=by omega
        simp[h,h']
       ·have h':¬ (k:Int)=(l.length:Int) - 1:=by omega
        simp[h,h']
      subst e0 e1 e2
      clear h0 h1 h2 h3 h4 g0 g1 g2 hd0 hd1
      cases hg:((x3 == d0) && (x4 == d1))
      ·have HM:=Lib.hid (wholeF_miss hlt (HI.out.trans hg))
       clear HT HI
       cases x3 <;> cases d0 <;> cases x4 <;> cases d1 <;> first|(exact absurd hg (by decide))|(clear hg;go_wp2;go_quiet (fail);go_wp2;go_ret;exact⟨ret_bool HM.out.symm,bel⟩)
      ·have HM:Hid (wholeTo l (k+1)=true):=Lib.hid (by rw[wholeTo,HT.out,HI.out,hg];rfl)
       clear HT HI
       cases x3 <;> cases d0 <;> cases x4 <;> cases d1 <;> first|(exact absurd hg (by decide))|(clear hg;go_wp2;go_quiet (fail);go_wp2;go_roundw;(case rel=>exact⟨k+1,by go_num,by omega,HM,bel⟩);(case measure=>simp[intOf];omega))
     ·have HI:=isW_2 (l:=l) (i:=k) (by rw[h2,g2];exact e2)
      clear h0 h1 h2 h3 h4 g0 g1 g2
      have f5:(x2 != y2)=true:=bne_iff_ne.2 e2
      have HM:=Lib.hid (wholeF_miss hlt (HI))
      clear HI
      clear HT
      go_wp2
      go_quiet (fail)
      go_wp2
      go_ret
      exact⟨ret_bool HM.out.symm,bel⟩
    ·have HI:=isW_1 (l:=l) (i:=k) (by rw[h1,g1];exact e1)
     clear h0 h1 h2 h3 h4 g0 g1 g2
     have f5:(x1 != y1)=true:=bne_iff_ne.2 e1
     have HM:=Lib.hid (wholeF_miss hlt (HI))
     clear HI
     clear HT
     go_wp2
     go_quiet (fail)
     go_wp2
     go_ret
     exact⟨ret_bool HM.out.symm,bel⟩
   ·have HI:=isW_0 (l:=l) (i:=k) (by rw[h0,g0];exact e0)
    clear h0 h1 h2 h3 h4 g0 g1 g2
    have f5:(x0 != y0)=true:=bne_iff_ne.2 e0
    have HM:=Lib.hid (wholeF_miss hlt (HI))
    clear HI
    clear HT
    go_wp2
    go_quiet (fail)
    go_wp2
    go_ret
    exact⟨ret_bool HM.out.symm,bel⟩
  ·obtain rfl:k=l.length:=by omega
   have HM:=Lib.hid (wholeF_all (by omega) HT.out)
   go_wp2
   go_ret
   exact⟨ret_bool ((decide_eq_true (by omega)).trans HM.out.symm),bel⟩
theorem cut_F (A:Option Addr) (n c:Nat) (lo hi:Int) (h0:0≤lo) (h1:lo≤hi) (h2:hi≤n) (hc:n≤c) (W:World) :
    (Instr.slice 145 (.slice A n c) (some (.int .i64 lo)) (some (.int .i64 hi)) none).run Tryz.prog W=.ok (.slice (if c=lo.toNat then A else A.map (·.add (lo.toNat*5))) (hi.toNat - lo.toNat) (c - lo.toNat)) W:=by
  obtain⟨i,hi',hs⟩:=Option.map_eq_some_iff.1 info_F
  exact cut_mid (P:=Tryz.prog) 145 153 .i64 .i64 Tryz.underlying145 hi' 5 (congrArg (fun z=>z.2.1) hs) A n c lo hi h0 h1 h2 hc W
def GotWP (w w':World) (l:List Flit) (e:Ending):Prop:=∃ v,e=.returned (.tuple #[v,.bool (wholeB l)])∧Kd.R (Kd.int .i64) 3 w' w.heap.size (fun _=>True) v (wholeP l)
set_option maxHeartbeats 8000000 in
set_option maxRecDepth 100000 in
theorem impl_WholePackets (l:List Flit) (A:Option Addr) (c:Nat) (w:World) (hr:kF.C w A l.length l) (hn:l.length≤2097152) (hc:l.length≤c) :
  Calls Tryz.prog 120 #[.slice A l.length c] w fun e w'=>GotWP w w' l e∧Below w.heap.size w w':=by
 have R:=Lib.hid hr
 clear hr
 go_enter Tryz.func120,Tryz.ntmps120
 go_wp2
 go_loopw [4,5,6] (fun v f t wr=>∃ (k fr:Nat) (ids:List Int),t=.int .i64 ((k:Int)+1)∧f=.int .i64 fr∧k≤l.length∧fr≤k∧Hid (wpAt l k=(ids,fr))∧ids.length≤k∧Kd.R (Kd.int .i64) 3 wr w.heap.size (fun _=>True) v ids∧Below w.heap.size w wr) (fun _ _ t _=>l.length+1 - (intOf t).toNat)
 case atStart=>exact⟨0,0,[],rfl,rfl,Nat.zero_le _,Nat.zero_le _,Lib.hid rfl,Nat.zero_le _,R_empty (W0:=w) _ _ (bw_size bel),bel⟩
 case round=>
  obtain⟨k,fr,ids,rfl,rfl,hk,hfr,HW,hid,HO,HB⟩:=hrel
  obtain⟨Ao,co,rfl⟩:=Kd.R_slice HO
  obtain⟨hcr,hfz,hzr⟩:=bcell HB
  by_cases hlt:k<l.length
  ·have i0:(k:Int)+1≤(l.length:Int):=by omega
   have C1:=Lib.hid (Kd.C_mid (c:=c) (lo:=fr) (hi:=k+1) R.out (by omega) (by omega) hc)
   have hl:((l.take (k+1)).drop fr).length=k+1 - fr:=by rw[List.length_drop,List.length_take];omega
   obtain⟨m,hm⟩:∃ m,(l.take (k+1)).drop fr=m:=⟨_,rfl⟩
   rw[hm] at C1 hl
   have HM:=Lib.hid hm
   have HL:=Lib.hid hl
   have hcut:∀ W:World,(Instr.slice 145 (.slice A l.length c) (some (.int .i64 (fr:Int))) (some (.int .i64 ((k:Int)+1))) none).run Tryz.prog W=.ok (.slice (if c=fr then A else A.map (·.add (fr*5))) m.length (c - fr)) W:=by
    intro W
    have:=cut_F A l.length c fr ((k:Int)+1) (by omega) (by omega) (by omega) hc W
    rw[this,hl]
    congr 2
   have hmn:m.length≤2097152:=by omega
   clear hl hm
   obtain⟨A2,hA2⟩:∃ A2,(if c=fr then A else A.map (·.add (fr*5)))=A2:=⟨_,rfl⟩
   rw[hA2] at hcut
   rw[show kF.sz=5 from rfl,hA2] at C1
   clear hA2
   cases hw:wholeF m
   ·have HV:=Lib.hid (wpAt_no HW.out (by rw[HM.out];exact hw))
    have H2:=Lib.hid hw
    clear hw
    go_wp2_with (go_at_call 179;refine(impl_IsWhole m A2 _ _ (by exact Kd.C_below C1.out bel) hmn).mono ?_;rintro e w1 ⟨he,Ba⟩;rw[H2.out] at he;subst he;obtain⟨Ca,Fa,Za⟩:=bcell Ba;(try simp only[szs] at Za);have Bb:=far2;obtain⟨Cb,Fb,Zb⟩:=bcell Bb;(try simp only[szs] at Zb);try (first|obtain⟨Ya,Yb,Yc,Yd⟩:=lts4 Zb|obtain⟨Ya,Yb,Yc⟩:=lts3 Zb|obtain⟨Ya,Yb⟩:=lts2 Zb|have Ya:=lts1 Zb);have hb9:=Ba)
    go_roundw
    case rel=>exact⟨k+1,fr,ids,by go_num,rfl,by omega,by omega,HV,by omega,(by exact Kd.R_below HO bel),bel⟩
    case measure=>simp[intOf];omega
   ·have HV:=Lib.hid (wpAt_yes HW.out (by rw[HM.out];exact hw))
    have H2:=Lib.hid hw
    clear hw
    obtain⟨b,off,hA,hb,RF⟩:∃ b off,A=some ⟨b,off,none⟩∧b<w.heap.size∧w.cell? ⟨b,off+fr*5,none⟩=some (.int .i64 (rf l fr).pk):=by
     obtain⟨b,off,h1,h2,h3,_⟩:=rdFl_at R.out fr (by omega)
     exact⟨b,off,h1,h2,h3⟩
    subst hA
    have i1:(fr:Int)<(l.length:Int):=by omega
    obtain⟨x,hx⟩:∃ x,(rf l (fr:Int)).pk=x:=⟨_,rfl⟩
    rw[hx] at RF HV
    clear hx
    go_wp2_with (first|(go_at_call 179;refine(impl_IsWhole m A2 _ _ (by exact Kd.C_below C1.out bel) hmn).mono ?_;rintro e w1 ⟨he,Ba⟩;rw[H2.out] at he;subst he;obtain⟨Ca,Fa,Za⟩:=bcell Ba;(try simp only[szs] at Za);have Bb:=far2;obtain⟨Cb,Fb,Zb⟩:=bcell Bb;(try simp only[szs] at Zb);try (first|obtain⟨Ya,Yb,Yc,Yd⟩:=lts4 Zb|obtain⟨Ya,Yb,Yc⟩:=lts3 Zb|obtain⟨Ya,Yb⟩:=lts2 Zb|have Ya:=lts1 Zb);have hb9:=Ba)|(at_builtin;refine app_int (W0:=w) rfl (.tmp 19) (.tmp 25) 26 3 rfl Tryz.underlying26 info_int _ ids x rfl (by first|rfl|exact congrArg (fun z=>Value.slice (some ⟨z,0,none⟩) 1 1) (World.size_alloc _ _).symm) (by exact Kd.R_below HO bel) bel (by omega) ?_;intro v1 w1 HO1 HB1;obtain⟨Ca,Fa,Za⟩:=bcell HB1;(try simp only[szs] at Za);have Bb:=HB1;have hb9:=HB1))
    go_roundw
    case rel=>exact⟨k+1,k+1,ids++[x],by go_num,by go_num,by omega,by omega,HV,by simp;omega,(by exact Kd.R_below HO1 bel),bel⟩
    case measure=>simp[intOf];omega
  ·obtain rfl:k=l.length:=by omega
   have i0:¬ (l.length:Int)+1≤(l.length:Int):=by omega
   by_cases h:fr<l.length
   ·have i1:(fr:Int)<(l.length:Int):=by omega
    have HE:=Lib.hid (wholeP_no HW.out h)
    clear h
    go_wp2
    exact bodyPost_ret (v:=.tuple #[.slice none 0 0,.bool false]) (by simp[results,Tryz.results120,go_sem]) rfl ⟨⟨_,by rw[HE.out.2],by rw[HE.out.1];exact R_nil' _ _ w _⟩,bel⟩
   ·have i1:¬ (fr:Int)<(l.length:Int):=by omega
    have HE:=Lib.hid (wholeP_yes HW.out h)
    clear h
    go_wp2
    exact bodyPost_ret (v:=.tuple #[.slice Ao ids.length co,.bool true]) (by simp[results,Tryz.results120,go_sem]) rfl ⟨⟨_,by rw[HE.out.2],by rw[HE.out.1];exact(by exact Kd.R_below HO bel)⟩,bel⟩
set_option maxHeartbeats 8000000 in
set_option maxRecDepth 100000 in
theorem spec_WholePackets (l:List Flit) (A:Option Addr) (c:Nat) (w:World) (hr:kF.C w A l.length l) (hn:l.length≤2097152) (hc:l.length≤c) :
  Calls Tryz.prog 206 #[.slice A l.length c] w fun e w'=>GotWP w w' l e∧Below w.heap.size w w':=by
 have R:=Lib.hid hr
 clear hr
 go_enter Tryz.func206,Tryz.ntmps206
 go_wp2
 go_loopw [4,5,6] (fun v f t wr=>∃ (k fr:Nat) (ids:List Int),t=.int .i64 k∧f=.int .i64 fr∧k≤l.length∧fr≤k∧Hid (wpAt l k=(ids,fr))∧ids.length≤k∧Kd.R (Kd.int .i64) 3 wr w.heap.size (fun _=>True) v ids∧Below w.heap.size w wr) (fun _ _ t _=>l.length - (intOf t).toNat)
 case atStart=>exact⟨0,0,[],rfl,rfl,Nat.zero_le _,Nat.zero_le _,Lib.hid rfl,Nat.zero_le _,R_empty (W0:=w) _ _ (bw_size bel),bel⟩
 case round=>
  obtain⟨k,fr,ids,rfl,rfl,hk,hfr,HW,hid,HO,HB⟩:=hrel
  obtain⟨Ao,co,rfl⟩:=Kd.R_slice HO
  obtain⟨hcr,hfz,hzr⟩:=bcell HB
  by_cases hlt:k<l.length
  ·have i0:(k:Int)<(l.length:Int):=by omega
   have C1:=Lib.hid (Kd.C_mid (c:=c) (lo:=fr) (hi:=k+1) R.out (by omega) (by omega) hc)
   have hl:((l.take (k+1)).drop fr).length=k+1 - fr:=by rw[List.length_drop,List.length_take];omega
   obtain⟨m,hm⟩:∃ m,(l.take (k+1)).drop fr=m:=⟨_,rfl⟩
   rw[hm] at C1 hl
   have HM:=Lib.hid hm
   have HL:=Lib.hid hl
   have hcut:∀ W:World,(Instr.slice 145 (.slice A l.length c) (some (.int .i64 (fr:Int))) (some (.int .i64 ((k:Int)+1))) none).run Tryz.prog W=.ok (.slice (if c=fr then A else A.map (·.add (fr*5))) m.length (c - fr)) W:=by
    intro W
    have:=cut_F A l.length c fr ((k:Int)+1) (by omega) (by omega) (by omega) hc W
    rw[this,hl]
    congr 2
   have hmn:m.length≤2097152:=by omega
   clear hl hm
   obtain⟨A2,hA2⟩:∃ A2,(if c=fr then A else A.map (·.add (fr*5)))=A2:=⟨_,rfl⟩
   rw[hA2] at hcut
   rw[show kF.sz=5 from rfl,hA2] at C1
   clear hA2
   cases hw:wholeF m
   ·have HV:=Lib.hid (wpAt_no HW.out (by rw[HM.out];exact hw))
    have H2:=Lib.hid hw
    clear hw
    go_wp2_with (go_at_call 229;refine(spec_IsWhole m A2 _ _ (by exact Kd.C_below C1.out bel) hmn).mono ?_;rintro e w1 ⟨he,Ba⟩;rw[H2.out] at he;subst he;obtain⟨Ca,Fa,Za⟩:=bcell Ba;(try simp only[szs] at Za);have Bb:=far2;obtain⟨Cb,Fb,Zb⟩:=bcell Bb;(try simp only[szs] at Zb);try (first|obtain⟨Ya,Yb,Yc,Yd⟩:=lts4 Zb|obtain⟨Ya,Yb,Yc⟩:=lts3 Zb|obtain⟨Ya,Yb⟩:=lts2 Zb|have Ya:=lts1 Zb);have hb9:=Ba)
    go_roundw
    case rel=>exact⟨k+1,fr,ids,by go_num,rfl,by omega,by omega,HV,by omega,(by exact Kd.R_below HO bel),bel⟩
    case measure=>simp[intOf];omega
   ·have HV:=Lib.hid (wpAt_yes HW.out (by rw[HM.out];exact hw))
    have hpk:=wpAt_same hfr hlt (by rw[HM.out];exact hw)
    rw[←hpk] at HV
    have H2:=Lib.hid hw
    clear hw hpk
    obtain⟨b,off,hA,hb,RF⟩:∃ b off,A=some ⟨b,off,none⟩∧b<w.heap.size∧w.cell? ⟨b,off+k*5,none⟩=some (.int .i64 (rf l k).pk):=by
     obtain⟨b,off,h1,h2,h3,_⟩:=rdFl_at R.out k (by omega)
     exact⟨b,off,h1,h2,h3⟩
    subst hA
    obtain⟨x,hx⟩:∃ x,(rf l (k:Int)).pk=x:=⟨_,rfl⟩
    rw[hx] at RF HV
    clear hx
    go_wp2_with (first|(go_at_call 229;refine(spec_IsWhole m A2 _ _ (by exact Kd.C_below C1.out bel) hmn).mono ?_;rintro e w1 ⟨he,Ba⟩;rw[H2.out] at he;subst he;obtain⟨Ca,Fa,Za⟩:=bcell Ba;(try simp only[szs] at Za);have Bb:=far2;obtain⟨Cb,Fb,Zb⟩:=bcell Bb;(try simp only[szs] at Zb);try (first|obtain⟨Ya,Yb,Yc,Yd⟩:=lts4 Zb|obtain⟨Ya,Yb,Yc⟩:=lts3 Zb|obtain⟨Ya,Yb⟩:=lts2 Zb|have Ya:=lts1 Zb);have hb9:=Ba)|(at_builtin;refine app_int (W0:=w) rfl (.tmp 20) (.tmp 26) 26 3 rfl Tryz.underlying26 info_int _ ids x rfl (by first|rfl|exact congrArg (fun z=>Value.slice (some ⟨z,0,none⟩) 1 1) (World.size_alloc _ _).symm) (by exact Kd.R_below HO bel) bel (by omega) ?_;intro v1 w1 HO1 HB1;obtain⟨Ca,Fa,Za⟩:=bcell HB1;(try simp only[szs] at Za);have Bb:=HB1;have hb9:=HB1))
    go_roundw
    case rel=>exact⟨k+1,k+1,ids++[x],by go_num,by go_num,by omega,by omega,HV,by simp;omega,(by exact Kd.R_below HO1 bel),bel⟩
    case measure=>simp[intOf];omega
  ·obtain rfl:k=l.length:=by omega
   have i0:¬ (l.length:Int)<(l.length:Int):=by omega
   by_cases h:fr<l.length
   ·have i1:(fr:Int)<(l.length:Int):=by omega
    have HE:=Lib.hid (wholeP_no HW.out h)
    clear h
    go_wp2
    exact bodyPost_ret (v:=.tuple #[.slice (some ⟨wr.heap.size,0,none⟩) 0 0,.bool false]) (by simp[results,Tryz.results206,go_sem]) rfl ⟨⟨_,by rw[HE.out.2],by rw[HE.out.1];exact R_empty (W0:=w) _ _ (bw_size HB)⟩,bel⟩
   ·have i1:¬ (fr:Int)<(l.length:Int):=by omega
    have HE:=Lib.hid (wholeP_yes HW.out h)
    clear h
    go_wp2
    exact bodyPost_ret (v:=.tuple #[.slice Ao ids.length co,.bool true]) (by simp[results,Tryz.results206,go_sem]) rfl ⟨⟨_,by rw[HE.out.2],by rw[HE.out.1];exact(by exact Kd.R_below HO bel)⟩,bel⟩
end Go.Proofs.YtodbglncccgdbaaGreat
