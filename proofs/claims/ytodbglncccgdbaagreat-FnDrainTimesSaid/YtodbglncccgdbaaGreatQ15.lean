/- Lemmas for laws of this seat, for all inputs: RunI Lx NwL NwS SndI. -/
import Derived.Test.YtodbglncccgdbaaGreatQ13
import Derived.Test.YtodbglncccgdbaaGreatQ14
import Derived.Test.YtodbglncccgdbaaGreatQ9
import Derived.Test.YtodbglncccgdbaaGreatQ4
import Derived.Test.YtodbglncccgdbaaGreatQ5
import Derived.Deep.OwnRows
import Derived.Test.YtodbglncccgdbaaGreatQ8
set_option linter.unusedVariables false
set_option linter.unusedSimpArgs false
namespace Go.Proofs.YtodbglncccgdbaaGreat
open Go.RowKit Go.Proofs.YtodbglncccgdbaaGreatW.PrintWords
open NoC
theorem results_cell_row2 {P:Program} {fn:Func} {p u:Tmp} {ty:TypeId} (h:fn.results=#[.cell p ty,.tmp u]) (tmps:Array Value) (w:World) (g:Nat) (t:TypeId) (cs:Array Value) (fr:Nat × Nat) (d:TypeDesc)
    (hp:tmps.getD p undef=.pointer (some ⟨g,0,none⟩)) (hg:w.heap[g]?=some (.cells cs t fr))
    (hu:P.underlying ty=some d) (hd:(match d with|.struct _|.array _ _=>true|_=>false)=true) (hi:(P.info? ty).map (·.size)=some cs.size) :
    (results fn tmps).run P w=.ok (.tuple #[.agg cs,tmps.getD u undef]) w:=by
  have hp':tmps[p]?.getD undef=.pointer (some ⟨g,0,none⟩):=by simpa using hp
  rw[results_cell_tmp h]
  simp[hp',asAddr,Result.andThen,run_loadVar_row w g t ty cs fr d hg hu hd hi]
def GotNV (w w':World) (n:Net) (v:Value) (e:Ending):Prop:=∃ q v4 v7 v8,e=.returned (.tuple #[.agg (netCells n q),v])∧NX w' w.heap.size n q v4 v7 v8
theorem idleFrom_yes {n:Net} {k f:Nat} (h:idleN (runN n k)=true):idleFrom n k (f+1)=k:=by rw[idleFrom,if_pos h]
theorem idleFrom_no {n:Net} {k f:Nat} (h:idleN (runN n k)=false):idleFrom n k (f+1)=idleFrom n (k+1) f:=by rw[idleFrom,if_neg (by simp[h])]
theorem toIdle_not {n:Net} (h:canRunN n 400=false):toIdleN n=-1∧runIdleN n=n:=by
  have e:toIdleN n=-1:=by
    unfold toIdleN
    cases hk:netOk n
    · rfl
    · rw[if_pos rfl]
      by_cases ht:n.time+400≤1000000
      · simp[canRunN,hk,ht,inside] at h
      · rw[if_neg ht]
  refine⟨e,?_⟩
  unfold runIdleN
  rw[e]
  rfl
theorem toIdle_can {n:Net} (h:canRunN n 400=true):toIdleN n=idleFrom n 0 401:=by
  simp only[canRunN,Bool.and_eq_true,decide_eq_true_eq] at h
  unfold toIdleN
  rw[if_pos h.1.1,if_pos h.2]
theorem canRun_parts {n:Net} {s:Int} (h:canRunN n s=true):netOk n=true∧0≤s∧s≤400∧n.time+s≤1000000:=by
  simp only[canRunN,Bool.and_eq_true,decide_eq_true_eq] at h
  have h2:=inside_iff.1 h.1.2
  exact⟨h.1.1,h2.1,h2.2,h.2⟩
set_option maxHeartbeats 8000000 in
set_option maxRecDepth 100000 in
theorem impl_canRun (n:Net) (s:Int) (q:NA) (w:World) (hr:NetR 153 w n q) :
    Calls Tryz.prog 71 #[.agg (netCells n q),.int .i64 s] w fun e w'=>e=.returned (.bool (canRunN n s))∧Below w.heap.size w w':=by
  have R:=Lib.hid hr
  obtain⟨a1,a2,a3,a4,a5,a6,a7,a8,c1,c2,c3,c4,c5,c6,c7,c8⟩:=q
  clear hr
  dsimp only [netCells]
  cases hk:netOk n
  · have HE:Hid (canRunN n s=false):=Lib.hid (by simp[canRunN,hk])
    go_enter Tryz.func71,Tryz.ntmps71
    go_wp2_with (go_at_call 55;refine(impl_NetOk n _ _ (R.out.below bel)).mono ?_;rintro e w1 ⟨rfl,Ba⟩;obtain⟨Ca,Fa,Za⟩:=bcell Ba;(try simp only[szs] at Za);have Bb:=far2;obtain⟨Cb,Fb,Zb⟩:=bcell Bb;(try simp only[szs] at Zb);try (first|obtain⟨Ya,Yb,Yc,Yd⟩:=lts4 Zb|obtain⟨Ya,Yb,Yc⟩:=lts3 Zb|obtain⟨Ya,Yb⟩:=lts2 Zb|have Ya:=lts1 Zb);have hb9:=Ba)
    go_ret
    exact⟨ret_bool HE.out.symm,bel⟩
  cases hi:inside s 0 400
  · have HE:Hid (canRunN n s=false):=Lib.hid (by simp[canRunN,hi])
    go_enter Tryz.func71,Tryz.ntmps71
    go_wp2_with (first|(go_at_call 55;refine(impl_NetOk n _ _ (R.out.below bel)).mono ?_;rintro e w1 ⟨rfl,Ba⟩;obtain⟨Ca,Fa,Za⟩:=bcell Ba;(try simp only[szs] at Za);have Bb:=far2;obtain⟨Cb,Fb,Zb⟩:=bcell Bb;(try simp only[szs] at Zb);try (first|obtain⟨Ya,Yb,Yc,Yd⟩:=lts4 Zb|obtain⟨Ya,Yb,Yc⟩:=lts3 Zb|obtain⟨Ya,Yb⟩:=lts2 Zb|have Ya:=lts1 Zb);have hb9:=Ba)|(go_at_call 68;refine(impl_inside _ _ _ _).mono ?_;rintro e w' ⟨rfl,rfl⟩))
    go_ret
    exact⟨ret_bool HE.out.symm,bel⟩
  · have hi':=inside_iff.1 hi
    have ti:=time_ok hk
    have HE:Hid (canRunN n s=decide (n.time+s≤1000000)):=Lib.hid (by simp[canRunN,hi,hk])
    go_enter Tryz.func71,Tryz.ntmps71
    go_wp2_with (first|(go_at_call 55;refine(impl_NetOk n _ _ (R.out.below bel)).mono ?_;rintro e w1 ⟨rfl,Ba⟩;obtain⟨Ca,Fa,Za⟩:=bcell Ba;(try simp only[szs] at Za);have Bb:=far2;obtain⟨Cb,Fb,Zb⟩:=bcell Bb;(try simp only[szs] at Zb);try (first|obtain⟨Ya,Yb,Yc,Yd⟩:=lts4 Zb|obtain⟨Ya,Yb,Yc⟩:=lts3 Zb|obtain⟨Ya,Yb⟩:=lts2 Zb|have Ya:=lts1 Zb);have hb9:=Ba)|(go_at_call 68;refine(impl_inside _ _ _ _).mono ?_;rintro e w' ⟨rfl,rfl⟩))
    go_ret
    exact⟨ret_bool HE.out.symm,bel⟩
set_option maxHeartbeats 8000000 in
set_option maxRecDepth 100000 in
theorem impl_toIdle (n:Net) (q:NA) (w:World) (hr:NetR 153 w n q) (hA:∀ x∈n.arrs,x.length≤1048576) :
  Calls Tryz.prog 57 #[.agg (netCells n q)] w fun e w'=>GotNV w w' (runIdleN n) (.int .i64 (toIdleN n)) e∧Below w.heap.size w w':=by
 have HA:=Lib.hid hA
 clear hA
 have HR:=Lib.hid hr
 have NBQ:=Lib.hid hr.nb
 obtain⟨a1,a2,a3,a4,a5,a6,a7,a8,c1,c2,c3,c4,c5,c6,c7,c8⟩:=q
 clear hr
 dsimp only [netCells]
 go_enter Tryz.func57,Tryz.ntmps57
 go_wp2_with fail

 refine(impl_copyNet n _ _ (HR.out.below bel)).mono ?_
 rintro e w1 ⟨hg1,HBC⟩
 obtain⟨qq,v4,v7,v8,rfl,HN0⟩:=hg1
 obtain⟨b1,b2,b3,b4,b5,b6,b7,b8,d1,d2,d3,d4,d5,d6,d7,d8⟩:=qq
 dsimp only [netCells]
 have HN1:=Lib.hid HN0
 clear HN0
 obtain⟨w0,e0⟩:∃ z,z=w1.alloc (.cells #[.int .i64 n.mesh.g.w,.int .i64 n.mesh.g.h,.slice b1 n.mesh.br.length d1,.slice b2 n.pa.length d2,.slice b3 n.pb.length d3,.slice b4 n.bufs.length d4,.slice b5 n.owners.length d5,.slice b6 n.turns.length d6,.slice b7 n.srcs.length d7,.slice b8 n.arrs.length d8,.int .i64 n.time] 42):=⟨_,rfl⟩
 have hz0:w0.heap.size=w1.heap.size+1:=by rw[e0];simp only[szs]
 have hw01:Below w1.heap.size w1 w0:=by rw[e0];exact bw_alloc _ (bw_refl w1)
 obtain⟨bx,ebx⟩:∃ z,z=w1.heap.size:=⟨_,rfl⟩
 have HBT:Hid (BT w0 bx n ⟨b1,b2,b3,b4,b5,b6,b7,b8,d1,d2,d3,d4,d5,d6,d7,d8⟩):=Lib.hid (by rw[e0,ebx];exact blk_new w1 _)
 obtain⟨lo,elo⟩:∃ z,z=w.heap.size+2:=⟨_,rfl⟩
 have HN:Hid (NX w0 lo n ⟨b1,b2,b3,b4,b5,b6,b7,b8,d1,d2,d3,d4,d5,d6,d7,d8⟩ v4 v7 v8):=Lib.hid ((HN1.out.lower (by simp only[szs];omega)).below hw01)
 have HHB:Hid (Below w.heap.size w w0):=Lib.hid (bw_then (bw_then (bw_alloc _ (bw_alloc _ (bw_refl w))) HBC) hw01)
 have sw:w.heap.size+2≤w1.heap.size:=by have:=bw_size HBC;simp only[szs] at this;omega
 have HX0:Hid (Box w0 w.heap.size #[.int .i64 n.mesh.g.w,.int .i64 n.mesh.g.h,.slice a1 n.mesh.br.length c1,.slice a2 n.pa.length c2,.slice a3 n.pb.length c3,.slice a4 n.bufs.length c4,.slice a5 n.owners.length c5,.slice a6 n.turns.length c6,.slice a7 n.srcs.length c7,.slice a8 n.arrs.length c8,.int .i64 n.time]):=Lib.hid (((((Box.new w w.heap.size #[.int .i64 n.mesh.g.w,.int .i64 n.mesh.g.h,.slice a1 n.mesh.br.length c1,.slice a2 n.pa.length c2,.slice a3 n.pb.length c3,.slice a4 n.bufs.length c4,.slice a5 n.owners.length c5,.slice a6 n.turns.length c6,.slice a7 n.srcs.length c7,.slice a8 n.arrs.length c8,.int .i64 n.time] 42 rfl).alloc _).below HBC)).below hw01)
 have HZB:Hid (BN w0 (w.heap.size+1)):=Lib.hid (((BT.bn (by have hn:=BT.new (w.alloc (.cells #[.int .i64 n.mesh.g.w,.int .i64 n.mesh.g.h,.slice a1 n.mesh.br.length c1,.slice a2 n.pa.length c2,.slice a3 n.pb.length c3,.slice a4 n.bufs.length c4,.slice a5 n.owners.length c5,.slice a6 n.turns.length c6,.slice a7 n.srcs.length c7,.slice a8 n.arrs.length c8,.int .i64 n.time] 42)) ⟨⟨⟨0,0⟩,[]⟩,[],[],[],[],[],[],[],0⟩ ⟨none,none,none,none,none,none,none,none,0,0,0,0,0,0,0,0⟩;rw[World.size_alloc] at hn;exact hn)).below HBC).below hw01)
 have box11:Box (w1.alloc (.cells #[.int .i64 n.mesh.g.w,.int .i64 n.mesh.g.h,.slice b1 n.mesh.br.length d1,.slice b2 n.pa.length d2,.slice b3 n.pb.length d3,.slice b4 n.bufs.length d4,.slice b5 n.owners.length d5,.slice b6 n.turns.length d6,.slice b7 n.srcs.length d7,.slice b8 n.arrs.length d8,.int .i64 n.time] 42)) w.heap.size #[.int .i64 n.mesh.g.w,.int .i64 n.mesh.g.h,.slice a1 n.mesh.br.length c1,.slice a2 n.pa.length c2,.slice a3 n.pb.length c3,.slice a4 n.bufs.length c4,.slice a5 n.owners.length c5,.slice a6 n.turns.length c6,.slice a7 n.srcs.length c7,.slice a8 n.arrs.length c8,.int .i64 n.time]:=by rw[←e0];exact HX0.out
 obtain⟨xo0,xo1,xo2,xo3,xo4,xo5,xo6,xo7,xo8,xo9,xo10⟩:=all11 box11
 clear box11
 have xol:w.heap.size<(w1.alloc (.cells #[.int .i64 n.mesh.g.w,.int .i64 n.mesh.g.h,.slice b1 n.mesh.br.length d1,.slice b2 n.pa.length d2,.slice b3 n.pb.length d3,.slice b4 n.bufs.length d4,.slice b5 n.owners.length d5,.slice b6 n.turns.length d6,.slice b7 n.srcs.length d7,.slice b8 n.arrs.length d8,.int .i64 n.time] 42)).heap.size:=by rw[←e0];exact HX0.out.lt
 go_wp2_with fail
 rw[←e0]
 try rw[←ebx]
 repeat (first|clear xo0|clear xo1|clear xo2|clear xo3|clear xo4|clear xo5|clear xo6|clear xo7|clear xo8|clear xo9|clear xo10)
 clear xol
 have sb1:bx<w0.heap.size:=by omega
 have sb2:w.heap.size+2≤bx:=by omega
 have sl1:lo≤w.heap.size+2:=by omega
 have sl2:w.heap.size+2≤lo:=by omega
 have sl3:lo≤bx:=by omega
 have sl4:lo≤w0.heap.size:=by omega
 clear e0 ebx elo hz0 sw HN1 HBC hw01

 refine(impl_canRun n 400 _ _ (HR.out.below HHB.out)).mono ?_

 rintro e w2 ⟨rfl,Bb⟩
 have HN2:=Lib.hid (HN.out.below Bb)
 have HB2:=Lib.hid (HBT.out.below Bb)
 have HZ2:=Lib.hid (HZB.out.below Bb)
 have HX2:=Lib.hid (HX0.out.below Bb)
 have HL2:Hid (Below lo w0 w2):=Lib.hid (Below.cut Bb sl4)
 have zz2:=bw_size Bb
 have HWB:Hid (Below w.heap.size w w2):=Lib.hid (bw_then HHB.out Bb)
 clear Bb

 cases hk:canRunN n 400
 ·have HE:Hid (toIdleN n=-1∧runIdleN n=n):=Lib.hid (toIdle_not hk)
  have box11:Box w2 bx #[.int .i64 n.mesh.g.w,.int .i64 n.mesh.g.h,.slice b1 n.mesh.br.length d1,.slice b2 n.pa.length d2,.slice b3 n.pb.length d3,.slice b4 n.bufs.length d4,.slice b5 n.owners.length d5,.slice b6 n.turns.length d6,.slice b7 n.srcs.length d7,.slice b8 n.arrs.length d8,.int .i64 n.time]:=HB2.out.box
  obtain⟨z0,z1,z2,z3,z4,z5,z6,z7,z8,z9,z10⟩:=all11 box11
  clear box11
  have zx:bx<w2.heap.size:=HB2.out.lt

  obtain⟨⟨ry0,rv0⟩,⟨ry1,rv1⟩,⟨ry2,rv2⟩,⟨ry3,rv3⟩,⟨ry4,rv4⟩,⟨ry5,rv5⟩,⟨ry6,rv6⟩,⟨ry7,rv7⟩,⟨ry8,rv8⟩,⟨ry9,rv9⟩,⟨ry10,rv10⟩,rz0,rz1,rz2,rz3,rz4,rz5,rz6,rz7,rz8,rz9,rz10⟩:=allBN HZ2.out
  go_wp2
  obtain⟨W9,e9⟩:∃ z,z=putN w2 (w.heap.size+1) n ⟨b1,b2,b3,b4,b5,b6,b7,b8,d1,d2,d3,d4,d5,d6,d7,d8⟩:=⟨_,rfl⟩
  have HB9:Hid (BT W9 (w.heap.size+1) n ⟨b1,b2,b3,b4,b5,b6,b7,b8,d1,d2,d3,d4,d5,d6,d7,d8⟩):=Lib.hid (by rw[e9];exact putN_BT HZ2.out)
  have HN9:=Lib.hid (show NX W9 _ n ⟨b1,b2,b3,b4,b5,b6,b7,b8,d1,d2,d3,d4,d5,d6,d7,d8⟩ v4 v7 v8 from by rw[e9];exact HN2.out.put HZ2.out)
  have HL9:Hid (Below w.heap.size w W9):=Lib.hid (by rw[e9];exact below_put HWB.out (by omega))
  unfold putN at e9
  try dsimp only at e9
  rw[←e9]
  clear e9
  exact bodyPost_ret (results_cell_row2 Tryz.results57 _ _ ((w.heap.size+1)) 42 _ (0,0) _ rfl HB9.out Tryz.underlying42 rfl (by kernel_rfl)) rfl (by dsimp only;rw[HE.out.1,HE.out.2];exact⟨⟨_,_,_,_,rfl,HN9.out.lower (by omega)⟩,HL9.out⟩)
 ·obtain⟨ok,s0,s4,st⟩:=canRun_parts hk
  have HT:Hid (toIdleN n=idleFrom n 0 401):=Lib.hid (toIdle_can hk)
  clear hk
  have HOK:Hid (∀ k:Nat,k≤400→netOk (runN n k)=true):=Lib.hid (fun k hk=>runN_ok ok k (by omega))
  have HOK1:Hid (∀ k:Nat,k≤400→netOk (runN n k)=true):=Lib.hid (fun k hk=>runN_ok ok k (by omega))
  go_wp2_with fail
  go_loopw [12] (fun i wr=>∃ (k:Nat) (q':NA) (u4 u7 u8:List Value),i=.int .i64 k∧k≤401∧Hid (NX wr lo (runN n k) q' u4 u7 u8)∧Hid (BT wr bx (runN n k) q')∧Hid (Below lo w0 wr)∧Hid (idleFrom n 0 401=idleFrom n k (401 - k))) (fun i _=>401 - (intOf i).toNat)
  case atStart=>exact⟨0,_,v4,v7,v8,rfl,Nat.zero_le _,Lib.hid HN2.out,Lib.hid HB2.out,Lib.hid HL2.out,Lib.hid rfl⟩
  case round=>
   clear HN2 HB2 HL2 HZ2 HX2 HWB
   obtain⟨k,q',u4,u7,u8,rfl,hk,HNk,HBk,HLk,HIk⟩:=hrel
   by_cases hlt:k<401
   ·have e41:401 - k=(401 - (k+1))+1:=by omega
    rw[e41] at HIk
    have HRk:=Lib.hid (HNk.out.reads (run_nb NBQ.out HA.out k (by omega) (HOK.out k (by omega))))
    cases hi:idleN (runN n k)
    ·have HI2:Hid (idleFrom n 0 401=idleFrom n (k+1) (401 - (k+1))):=Lib.hid (HIk.out.trans (idleFrom_no hi))
     clear e41
     go_wp2_with (go_at_call 58;refine(impl_isIdle (runN n k) q' bx _ HRk.out HBk.out.box).mono ?_;rintro e w' ⟨rfl,rfl⟩)
     refine(impl_step (runN n k) q' bx lo u4 u7 u8 _ HNk.out HBk.out (run_nb NBQ.out HA.out k (by omega) (HOK.out k (by omega))) (HOK.out k (by omega)) sl3 (Nat.le_trans sl4 HLk.out.size)).mono ?_
     rintro e w3 ⟨rfl,⟨q3,y4,y7,y8,hn3,hb3⟩,hl3⟩
     have HN3:=Lib.hid hn3
     have HB3:=Lib.hid hb3
     have HL3:Hid (Below lo w0 w3):=Lib.hid (bw_trans HLk.out hl3 (Nat.le_refl _))
     clear hn3 hb3 hl3
     go_wp2
     go_roundw
     case rel=>exact⟨k+1,q3,y4,y7,y8,by go_num,by omega,Lib.hid HN3.out,Lib.hid HB3.out,Lib.hid HL3.out,Lib.hid HI2.out⟩
     case measure=>simp[intOf];omega
    ·have HI2:Hid (toIdleN n=k):=Lib.hid (HT.out.trans (HIk.out.trans (idleFrom_yes hi)))
     have HI3:Hid (runIdleN n=runN n k):=Lib.hid (by unfold runIdleN;rw[HI2.out,if_pos (by omega),Int.toNat_natCast])
     clear e41
     have HX4:=Lib.hid (HBk.out.box)
     obtain⟨p1,p2,p3,p4,p5,p6,p7,p8,r1,r2,r3,r4,r5,r6,r7,r8⟩:=q'
     obtain⟨wk,ewk⟩:∃ z,z=wr:=⟨_,rfl⟩
     subst ewk
     have HZk:Hid (BN wk (w.heap.size+1)):=Lib.hid (HZB.out.low HLk.out (by omega))
     have HWBk:Hid (Below w.heap.size w wk):=Lib.hid (bw_trans HHB.out HLk.out (by omega))
     have zzk:=HLk.out.size
     obtain⟨X,hX⟩:∃ X,runN n k=X:=⟨_,rfl⟩
     rw[hX] at HNk HBk
     rw[hX] at HI3
     have HI9:Hid (idleN (runN n k)=true):=Lib.hid hi
     rw[hX] at HRk HX4 hi
     clear hX HI9
     have HIX:Hid (idleN X=true):=Lib.hid hi
     clear hi
     have box11:Box wk bx #[.int .i64 X.mesh.g.w,.int .i64 X.mesh.g.h,.slice p1 X.mesh.br.length r1,.slice p2 X.pa.length r2,.slice p3 X.pb.length r3,.slice p4 X.bufs.length r4,.slice p5 X.owners.length r5,.slice p6 X.turns.length r6,.slice p7 X.srcs.length r7,.slice p8 X.arrs.length r8,.int .i64 X.time]:=HBk.out.box
     obtain⟨z0,z1,z2,z3,z4,z5,z6,z7,z8,z9,z10⟩:=all11 box11
     clear box11
     have zx:bx<wk.heap.size:=HBk.out.lt

     obtain⟨⟨ry0,rv0⟩,⟨ry1,rv1⟩,⟨ry2,rv2⟩,⟨ry3,rv3⟩,⟨ry4,rv4⟩,⟨ry5,rv5⟩,⟨ry6,rv6⟩,⟨ry7,rv7⟩,⟨ry8,rv8⟩,⟨ry9,rv9⟩,⟨ry10,rv10⟩,rz0,rz1,rz2,rz3,rz4,rz5,rz6,rz7,rz8,rz9,rz10⟩:=allBN HZk.out
     go_wp2_with (go_at_call 58;refine(impl_isIdle X _ bx _ HRk.out HX4.out).mono ?_;rintro e w' ⟨he,rfl⟩;rw[HIX.out] at he;subst he)
     obtain⟨W9,e9⟩:∃ z,z=putN wk (w.heap.size+1) X ⟨p1,p2,p3,p4,p5,p6,p7,p8,r1,r2,r3,r4,r5,r6,r7,r8⟩:=⟨_,rfl⟩
     have HB9:Hid (BT W9 (w.heap.size+1) X ⟨p1,p2,p3,p4,p5,p6,p7,p8,r1,r2,r3,r4,r5,r6,r7,r8⟩):=Lib.hid (by rw[e9];exact putN_BT HZk.out)
     have HN9:=Lib.hid (show NX W9 _ X ⟨p1,p2,p3,p4,p5,p6,p7,p8,r1,r2,r3,r4,r5,r6,r7,r8⟩ u4 u7 u8 from by rw[e9];exact HNk.out.put HZk.out)
     have HL9:Hid (Below w.heap.size w W9):=Lib.hid (by rw[e9];exact below_put HWBk.out (by omega))
     unfold putN at e9
     try dsimp only at e9
     rw[←e9]
     clear e9
     exact bodyPost_ret (results_cell_row2 Tryz.results57 _ _ ((w.heap.size+1)) 42 _ (0,0) _ rfl HB9.out Tryz.underlying42 rfl (by kernel_rfl)) rfl (by dsimp only;rw[HI2.out,HI3.out];exact⟨⟨_,_,_,_,rfl,HN9.out.lower (by omega)⟩,HL9.out⟩)
   ·obtain rfl:k=401:=by omega
    have HI2:Hid (toIdleN n=-1):=Lib.hid (HT.out.trans HIk.out)
    have HI3:Hid (runIdleN n=n):=Lib.hid (by unfold runIdleN;rw[HI2.out];rfl)
    obtain⟨wk,ewk⟩:∃ z,z=wr:=⟨_,rfl⟩
    subst ewk
    have XB:Box wk w.heap.size #[.int .i64 n.mesh.g.w,.int .i64 n.mesh.g.h,.slice a1 n.mesh.br.length c1,.slice a2 n.pa.length c2,.slice a3 n.pb.length c3,.slice a4 n.bufs.length c4,.slice a5 n.owners.length c5,.slice a6 n.turns.length c6,.slice a7 n.srcs.length c7,.slice a8 n.arrs.length c8,.int .i64 n.time]:=box_low HX0.out HLk.out (by omega)
    have HBw:Below w.heap.size w wk:=bw_trans HHB.out HLk.out (by omega)
    have box11:Box wk w.heap.size #[.int .i64 n.mesh.g.w,.int .i64 n.mesh.g.h,.slice a1 n.mesh.br.length c1,.slice a2 n.pa.length c2,.slice a3 n.pb.length c3,.slice a4 n.bufs.length c4,.slice a5 n.owners.length c5,.slice a6 n.turns.length c6,.slice a7 n.srcs.length c7,.slice a8 n.arrs.length c8,.int .i64 n.time]:=XB
    obtain⟨z0,z1,z2,z3,z4,z5,z6,z7,z8,z9,z10⟩:=all11 box11
    clear box11
    have zx:w.heap.size<wk.heap.size:=XB.lt
    go_wp2_with fail
    refine(impl_copyNet n _ _ (HR.out.below HBw)).mono ?_
    rintro e w4 ⟨hg4,hb4⟩
    obtain⟨q4,y4,y7,y8,rfl,HN0⟩:=hg4
    obtain⟨p1,p2,p3,p4,p5,p6,p7,p8,r1,r2,r3,r4,r5,r6,r7,r8⟩:=q4
    dsimp only [netCells]
    have HN4:=Lib.hid HN0
    have HZ4:Hid (BN w4 (w.heap.size+1)):=Lib.hid ((HZB.out.low HLk.out (by omega)).below hb4)
    have HWB4:Hid (Below w.heap.size w w4):=Lib.hid (bw_then HBw hb4)
    have zz4:=bw_size hb4
    have zz5:=HLk.out.size
    clear HN0 hb4 HBw XB
    repeat (first|clear z0|clear z1|clear z2|clear z3|clear z4|clear z5|clear z6|clear z7|clear z8|clear z9|clear z10)
    obtain⟨⟨ry0,rv0⟩,⟨ry1,rv1⟩,⟨ry2,rv2⟩,⟨ry3,rv3⟩,⟨ry4,rv4⟩,⟨ry5,rv5⟩,⟨ry6,rv6⟩,⟨ry7,rv7⟩,⟨ry8,rv8⟩,⟨ry9,rv9⟩,⟨ry10,rv10⟩,rz0,rz1,rz2,rz3,rz4,rz5,rz6,rz7,rz8,rz9,rz10⟩:=allBN HZ4.out
    go_wp2
    obtain⟨W9,e9⟩:∃ z,z=putN w4 (w.heap.size+1) n ⟨p1,p2,p3,p4,p5,p6,p7,p8,r1,r2,r3,r4,r5,r6,r7,r8⟩:=⟨_,rfl⟩
    have HB9:Hid (BT W9 (w.heap.size+1) n ⟨p1,p2,p3,p4,p5,p6,p7,p8,r1,r2,r3,r4,r5,r6,r7,r8⟩):=Lib.hid (by rw[e9];exact putN_BT HZ4.out)
    have HN9:=Lib.hid (show NX W9 _ n ⟨p1,p2,p3,p4,p5,p6,p7,p8,r1,r2,r3,r4,r5,r6,r7,r8⟩ y4 y7 y8 from by rw[e9];exact HN4.out.put HZ4.out)
    have HL9:Hid (Below w.heap.size w W9):=Lib.hid (by rw[e9];exact below_put HWB4.out (by omega))
    unfold putN at e9
    try dsimp only at e9
    rw[←e9]
    clear e9
    exact bodyPost_ret (results_cell_row2 Tryz.results57 _ _ ((w.heap.size+1)) 42 _ (0,0) _ rfl HB9.out Tryz.underlying42 rfl (by kernel_rfl)) rfl (by dsimp only;rw[HI2.out,HI3.out];exact⟨⟨_,_,_,_,rfl,HN9.out.lower (by omega)⟩,HL9.out⟩)
structure NAV where
  q:NA
  v4:List Value
  v7:List Value
  v8:List Value
  lo:Nat
  hi:Nat
def NAV.zero:NAV:=⟨⟨none,none,none,none,none,none,none,none,0,0,0,0,0,0,0,0⟩,[],[],[],0,0⟩
def GX (B:Nat) (X:Net) (y:NAV) (W:World):Prop:=NX W y.lo X y.q y.v4 y.v7 y.v8∧NT y.hi X y.q y.v4 y.v7 y.v8∧B≤y.lo∧y.lo≤y.hi∧y.hi≤W.heap.size
theorem GX.below {B:Nat} {X:Net} {y:NAV} {W W2:World} (h:GX B X y W) (hb:Below W.heap.size W W2):GX B X y W2:=⟨h.1.below hb,h.2.1,h.2.2.1,h.2.2.2.1,Nat.le_trans h.2.2.2.2 (bw_size hb)⟩
theorem GX.of {B:Nat} {X:Net} {W W1:World} {v:Value} {e:Ending} (h:GotNV W W1 X v e) (hb:Below W.heap.size W W1) (hB:B≤W.heap.size):∃ y:NAV,e=.returned (.tuple #[.agg (netCells X y.q),v])∧GX B X y W1∧W.heap.size≤y.lo∧y.hi≤W1.heap.size:=by
  obtain⟨q,v4,v7,v8,rfl,hn⟩:=h
  exact⟨⟨q,v4,v7,v8,W.heap.size,W1.heap.size⟩,rfl,⟨hn,hn.ny.top,hB,bw_size hb,Nat.le_refl _⟩,Nat.le_refl _,Nat.le_refl _⟩
structure Out (B:Nat) (X:Net) (y:NAV) (g:Nat) (wa w9:World):Prop where
  nx:NX w9 y.lo X y.q y.v4 y.v7 y.v8
  nt:NT y.hi X y.q y.v4 y.v7 y.v8
  bt:BT w9 g X y.q
  off:g<y.lo∨y.hi≤g
  lo:B≤y.lo
  lh:y.lo≤y.hi
  hi:y.hi≤w9.heap.size
  bg:B≤g
  below:Below wa.heap.size wa w9
theorem litBN {F:World→Prop} {B g:Nat} {iv:List (Nat × Nat)} {W:World} {cs:Array Value} (h:F W∧B≤g∧W.heap[g]?=some (.cells cs 42 (0,0))∧∀ z∈iv,g<z.1∨z.2≤g) (hc:cs.size=11):BN W g:=⟨cs,h.2.2.1,hc⟩
theorem out_of {B:Nat} {X:Net} {y:NAV} {g:Nat} {wa W:World} {cs:Array Value} {iv:List (Nat × Nat)} (h:GX B X y W∧B≤g∧W.heap[g]?=some (.cells cs 42 (0,0))∧∀ z∈(y.lo,y.hi)::iv,g<z.1∨z.2≤g) (hc:cs.size=11) (hB:wa.heap.size=B) (hb:Below wa.heap.size wa W):Out B X y g wa (putN W g X y.q):=by
  have hn:BN W g:=⟨cs,h.2.2.1,hc⟩
  have hbt:=putN_BT (n:=X) (q:=y.q) hn
  have hbl:Below wa.heap.size wa (putN W g X y.q):=below_put hb (by rw[hB];exact h.2.1)
  have hs:W.heap.size≤(putN W g X y.q).heap.size:=by
    have h1:Below 0 W (putN W g X y.q):=below_put (Below.cut (bw_refl W) (Nat.zero_le _)) (Nat.zero_le _)
    exact h1.size
  exact⟨h.1.1.put hn,h.1.2.1,hbt,h.2.2.2 _ (List.mem_cons_self ..),h.1.2.2.1,h.1.2.2.2.1,Nat.le_trans h.1.2.2.2.2 hs,h.2.1,hbl⟩
theorem made_list (z:Value) (K:Nat):(madeCells #[z] K).toList=List.replicate K z:=by
  apply List.ext_getElem
  · simp[size_madeCells]
  · intro i h1 h2
    simp[madeCells,Nat.mod_one]
theorem own_made {W:World} {B g K e:Nat} {z:Value} (hB:B≤g) (h:W.heap[g]?=some (.cells (madeCells #[z] K) e (0,0))) (hK:K≤1000):W.ownsRow B e 1 (.slice (some ⟨g,0,none⟩) K K) K (List.replicate K z):=by
  refine⟨by simp,.inr ⟨g,K,_,rfl,hB,h,Nat.le_refl _,?_,by rw[size_madeCells];omega,?_⟩⟩
  · exact Nat.le_trans hK (by decide)
  · rw[made_list,Nat.mul_one,List.take_of_length_le (by simp)]
theorem rowI_made {W:World} {B g K:Nat} (hB:B≤g) (h:W.heap[g]?=some (.cells (madeCells #[.int .i64 0] K) 3 (0,0))) (hK:K≤1000):Kd.R (Kd.int .i64) 3 W B (fun _=>True) (.slice (some ⟨g,0,none⟩) (List.replicate K (0:Int)).length K) (List.replicate K (0:Int)):=by
  have ho:=own_made (B:=B) (z:=.int .i64 0) hB h hK
  refine Kd.R_of_own ?_ (fun _ _=>trivial)
  have e:∀ m,encs (fun x=>Value.int .i64 x) (List.replicate m (0:Int))=List.replicate m (.int .i64 0):=fun m=>by
    induction m with
    | zero=>rfl
    | succ m ih=>simp[encs]
  rw[e,List.length_replicate]
  exact ho
theorem FR_made (w:World) (lo K:Nat):FR w lo (List.replicate K (.slice none 0 0)) (List.replicate K []):=by
  have e:∀ i,vr (List.replicate K (.slice none 0 0)) i=.slice none 0 0:=fun i=>by
    unfold vr
    rw[List.getD_eq_getElem?_getD,List.getElem?_replicate]
    split <;> rfl
  refine⟨by simp,fun i hi=>?_,fun i j hij hj=>?_⟩
  · rw[e,rl_replicate]
    exact Kd.R_nil _ _ _ _ _
  · rw[e]
    exact .inl rfl
theorem NX.made {W:World} {B m1 m2 c1 c2 g4 g6 g7 g8:Nat} {m:Mesh} {pa pb:List Int} {A1 A2 A3:Option Addr} {k1 k2 k3:Nat}
    (hm:RU (Kd.int .i64) 3 W m1 m2 (.slice A1 m.br.length k1) m.br) (ha:RU (Kd.int .i64) 3 W c1 c2 (.slice A2 pa.length k2) pa) (hb:RU (Kd.int .i64) 3 W c1 c2 (.slice A3 pb.length k3) pb) (hab:Apart (.slice A2 pa.length k2) (.slice A3 pb.length k3))
    (bm:B≤m1) (bc:B≤c1) (mc:m2≤c1) (hK:(nodeCount m.g).toNat≤16)
    (h4:W.heap[g4]?=some (.cells (madeCells #[.slice none 0 0] (10*(nodeCount m.g).toNat)) 145 (0,0))) (h6:W.heap[g6]?=some (.cells (madeCells #[.int .i64 0] (5*(nodeCount m.g).toNat)) 3 (0,0)))
    (h7:W.heap[g7]?=some (.cells (madeCells #[.slice none 0 0] (nodeCount m.g).toNat) 145 (0,0))) (h8:W.heap[g8]?=some (.cells (madeCells #[.slice none 0 0] (nodeCount m.g).toNat) 145 (0,0)))
    (b4:B≤g4) (b6:B≤g6) (b7:B≤g7) (b8:B≤g8) (n47:g4≠g7) (n48:g4≠g8) (n78:g7≠g8) (n6m:g6<m1∨m2≤g6) (n6c:g6<c1∨c2≤g6) :
    NX W B { newN m pa pb with owners:=[] } ⟨A1,A2,A3,some ⟨g4,0,none⟩,none,some ⟨g6,0,none⟩,some ⟨g7,0,none⟩,some ⟨g8,0,none⟩,k1,k2,k3,10*(nodeCount m.g).toNat,0,5*(nodeCount m.g).toNat,(nodeCount m.g).toNat,(nodeCount m.g).toNat⟩ (List.replicate (10*(nodeCount m.g).toNat) (.slice none 0 0)) (List.replicate (nodeCount m.g).toNat (.slice none 0 0)) (List.replicate (nodeCount m.g).toNat (.slice none 0 0)):=by
  have ap6:∀ {v:Value} {a b:Nat},Within v a b→(g6<a∨b≤g6)→∀ k c,Ap0 v (.slice (some ⟨g6,0,none⟩) k c):=fun hv hn k c=>.inr (.inr (by
    unfold Apart
    cases e:Value.ownBlock _ with
    | none=>exact .inl rfl
    | some j=>
      right
      intro e2
      have h2:=hv j e
      have h3:j=g6:=Option.some.inj e2
      omega))
  have apN:∀ {v:Value} {c:Nat},Ap0 v (.slice none 0 c):=fun {v c}=>.inr (.inl rfl)
  have apG:∀ {a b k k' c c':Nat},a≠b→Apart (.slice (some ⟨a,0,none⟩) k c) (.slice (some ⟨b,0,none⟩) k' c'):=fun h=>.inr (fun e=>h (Option.some.inj e))
  have eL:∀ K,(List.replicate K ([]:List Flit)).length=K:=fun K=>by simp
  refine⟨Kd.R_lower hm.row bm,Kd.R_lower ha.row bc,Kd.R_lower hb.row bc,Kd.R_nil _ _ _ _ _,rowI_made b6 h6 (by omega),?_,?_,?_,?_,?_,?_⟩
  · show W.ownsRow B _ 1 (.slice _ (List.replicate _ ([]:List Flit)).length _) (List.replicate _ ([]:List Flit)).length _
    rw[eL];exact own_made b4 h4 (by omega)
  · show W.ownsRow B _ 1 (.slice _ (List.replicate _ ([]:List Flit)).length _) (List.replicate _ ([]:List Flit)).length _
    rw[eL];exact own_made b7 h7 (by omega)
  · show W.ownsRow B _ 1 (.slice _ (List.replicate _ ([]:List Flit)).length _) (List.replicate _ ([]:List Flit)).length _
    rw[eL];exact own_made b8 h8 (by omega)
  · show FR W B (_++(_++_)) (List.replicate _ []++(List.replicate _ []++List.replicate _ []))
    rw[List.replicate_append_replicate,List.replicate_append_replicate,List.replicate_append_replicate,List.replicate_append_replicate]
    exact FR_made _ _ _
  · exact all5 (ap0_of (apart_lt hm.within ha.within mc)) (ap0_of (apart_lt hm.within hb.within mc)) apN (ap6 hm.within n6m _ _) (ap0_of hab) apN (ap6 ha.within n6c _ _) apN (ap6 hb.within n6c _ _) apN.comm
  · exact all3 (apG n47) (apG n48) (apG n78)
def OApart (n:Net) (q:NA):Prop:=∀ i,i<5→i≠3→Apart (vr (iv n q) i) (.slice q.a5 n.owners.length q.c5)
section
variable {w w1:World} {lo:Nat} {n:Net} {q:NA} {v4 v7 v8:List Value}
theorem NX.growOwners (h:NX w lo n q v4 v7 v8) (hap:OApart n q) {A:Option Addr} {c:Nat} {l:List Int} (hg:w.grownBy w1 (Value.slice q.a5 n.owners.length q.c5).ownBlock) (hr:Kd.R (Kd.int .i64) 3 w1 lo (fun _=>True) (.slice A l.length c) l) (hat:Anew w (.slice A l.length c) (.slice q.a5 n.owners.length q.c5)) :
    NX w1 lo { n with owners:=l } { q with a5:=A,c5:=c } v4 v7 v8∧OApart { n with owners:=l } { q with a5:=A,c5:=c }:=by
  have h0:=hap 0 (by omega) (by omega)
  have h1:=hap 1 (by omega) (by omega)
  have h2:=hap 2 (by omega) (by omega)
  have h4:=hap 4 (by omega) (by omega)
  obtain⟨inner,hin⟩:=Kd.R_own h.owners
  have nw:∀ {v:Value} {xs:List Int},Kd.R (Kd.int .i64) 3 w lo (fun _=>True) v xs→Apart v (.slice q.a5 n.owners.length q.c5)→Apart v (.slice A l.length c):=fun {v xs} hv ha=>by
    rcases hat with e|e|⟨b,e1,e2⟩
    · exact apart_comm (.inl e)
    · unfold Apart at ha ⊢
      rwa [e]
    · cases e:v.ownBlock with
      | none=>exact .inl e
      | some g=>
        right
        rw[e1,e]
        intro e3
        have:=within_R hv g e
        have:=Option.some.inj e3
        omega
  have g0:=nw h.br h0
  have g1:=nw h.pa h1
  have g2:=nw h.pb h2
  have g4:=nw h.turns h4
  have rowsK:FR w1 lo (v4++(v7++v8)) (n.bufs++(n.srcs++n.arrs)):=⟨h.rows.len,fun i hi=>by
    obtain⟨i2,hi2⟩:=Kd.R_own (h.rows.row i hi)
    exact R_grownF (h.rows.row i hi) hg (own_type_ne hi2 hin (by decide)),h.rows.ap⟩
  refine⟨⟨R_grownI h.br hg h0,R_grownI h.pa hg h1,R_grownI h.pb hg h2,hr,R_grownI h.turns hg h4,own_other h.bufs hg (own_type_ne h.bufs hin (by decide)),own_other h.srcs hg (own_type_ne h.srcs hin (by decide)),own_other h.arrs hg (own_type_ne h.arrs hin (by decide)),rowsK,?_,h.apO⟩,?_⟩
  · have o:=h.apI
    exact all5 (o 0 1 (by omega) (by omega)) (o 0 2 (by omega) (by omega)) (ap0_of g0) (o 0 4 (by omega) (by omega)) (o 1 2 (by omega) (by omega)) (ap0_of g1) (o 1 4 (by omega) (by omega)) (ap0_of g2) (o 2 4 (by omega) (by omega)) (ap0_of (apart_comm g4))
  · intro i hi hne
    rcases (by omega:i=0∨i=1∨i=2∨i=4) with rfl|rfl|rfl|rfl
    · exact g0
    · exact g1
    · exact g2
    · exact g4
end
section
variable {ops:Array Oper} {rest:List Oper} {o:Oper} {a:Act} {Q:Exit→Act→World→Prop}
theorem app_intN {B:Nat} {W:World} (hgd:o.guard=none) (s x:Operand)
    (ho:o.op=.call { callee:=.builtin .append,args:=#[s,x],argTypes:=#[26,26] })
    (v:Value) (xs:List Int) (y:Int) (hs:a.eval s=v) (hx:a.eval x=.slice (some ⟨W.heap.size,0,none⟩) 1 1)
    (HO:Kd.R (Kd.int .i64) 3 W B (fun _=>True) v xs) (hB:B≤W.heap.size) (hl:xs.length≤100000000)
    (h:∀ v1 w1,Kd.R (Kd.int .i64) 3 w1 B (fun _=>True) v1 (xs++[y])→W.grownBy w1 v.ownBlock→Anew W v1 v→wpList Tryz.prog ops Q rest (a.put o.dst v1) w1) :
    wpList Tryz.prog ops Q (o::rest) a (W.alloc (.cells #[.int .i64 y] 3)):=
  Kd.R_append (P:=Tryz.prog) (Kd.int .i64) (w0:=W) B hgd s x 26 3 (.int .i64 0) 8 ho Tryz.underlying26 info_int rfl (by decide) (by omega) v xs y [.int .i64 y] (fun _=>True) (fun _=>False) hs hx rfl (fun _ h=>h.elim) (fun _ _=>trivial) HO (Below.refl _ _) hB (by omega) (fun v1 w1 h1 _ h3 h4=>h v1 w1 h1 h3 (.inr h4))
end
def RawC (B:Nat) (y1 y2:PX) (m:Mesh) (pa pb:List Int) (W:World):Prop:=gI B y1 m.br W∧gC y1.hi y2 pa pb W
theorem RawC.below {B:Nat} {y1 y2:PX} {m:Mesh} {pa pb:List Int} {W W1:World} (h:RawC B y1 y2 m pa pb W) (hb:Below W.heap.size W W1):RawC B y1 y2 m pa pb W1:=⟨h.1.stp ⟨hb⟩,h.2.stp ⟨hb⟩⟩
theorem RawC.set {B g:Nat} {y1 y2:PX} {m:Mesh} {pa pb:List Int} {W:World} (h:RawC B y1 y2 m pa pb W) (h1:g<y1.lo∨y1.hi≤g) (h2:g<y2.lo∨y2.hi≤g) (j:Nat) (u:Value):RawC B y1 y2 m pa pb (W.setCell ⟨g,j,none⟩ u):=by
  have hc:Chg g (g+1) W (W.setCell ⟨g,j,none⟩ u):=⟨rfl,rfl,rfl,by simp,fun i hi hn=>Below.heap_setCell _ _ _ i (fun e=>by
    have e2:i=g:=e
    omega)⟩
  have hs:=hc.size
  obtain⟨⟨a1,a2,a3,a4⟩,b1,b2,b3,b4,b5,b6⟩:=h
  exact⟨⟨a1,a2,by omega,a4.chg hc (by omega)⟩,b1,b2,by omega,b4.chg hc (by omega),b5.chg hc (by omega),b6⟩
theorem bw_set0 {B b:Nat} {w0 W:World} (h:Below B w0 W) (hb:B≤b) (j:Nat) (u:Value):Below B w0 (W.setCell ⟨b,j,none⟩ u):=
  ⟨h.os,h.tape,h.output,by have:=h.size;simp only[World.size_setCell];exact this,fun i hi=>(Below.heap_setCell W ⟨b,j,none⟩ u i (fun e=>by
    have e2:i=b:=e
    omega)).trans (h.block i hi)⟩
theorem blk_put {w:World} {b g:Nat} {n:Net} {q:NA} (hne:g≠b):(putN w b n q).heap[g]?=w.heap[g]?:=by
  have hs:∀ (W:World) (j:Nat) (u:Value),(W.setCell ⟨b,j,none⟩ u).heap[g]?=W.heap[g]?:=fun W j u=>Below.heap_setCell W ⟨b,j,none⟩ u g hne
  unfold putN
  simp only[hs]
theorem raw_put {B g:Nat} {y1 y2:PX} {m:Mesh} {pa pb:List Int} {W:World} {n:Net} {q:NA} (h:RawC B y1 y2 m pa pb W) (h1:g<y1.lo∨y1.hi≤g) (h2:g<y2.lo∨y2.hi≤g):RawC B y1 y2 m pa pb (putN W g n q):=by
  unfold putN
  exact((((((((((h.set h1 h2 0 _).set h1 h2 1 _).set h1 h2 2 _).set h1 h2 3 _).set h1 h2 4 _).set h1 h2 5 _).set h1 h2 6 _).set h1 h2 7 _).set h1 h2 8 _).set h1 h2 9 _).set h1 h2 10 _
theorem blk_made {W:World} {g e:Nat} {c:Array Value} (h:g=W.heap.size):(W.alloc (.cells c e)).heap[g]?=some (.cells c e (0,0)):=by
  subst h
  exact blk_new W _
structure Made5 (w3:World) (m:Mesh) (pa pb:List Int) (y1 y2:PX) (K K10 K5:Nat) (W9:World) (gb g6 g4 g7 g8:Nat) (cs:Array Value) (w':World):Prop where
  bel:Below w3.heap.size w3 w'
  raw:RawC w3.heap.size y1 y2 m pa pb w'
  h6:w'.heap[g6]?=some (.cells (madeCells #[.int .i64 0] K5) 3 (0,0))
  h4:w'.heap[g4]?=some (.cells (madeCells #[.slice none 0 0] K10) 145 (0,0))
  h7:w'.heap[g7]?=some (.cells (madeCells #[.slice none 0 0] K) 145 (0,0))
  h8:w'.heap[g8]?=some (.cells (madeCells #[.slice none 0 0] K) 145 (0,0))
  n1:g4≠g7∧g4≠g8∧g7≠g8
  n2:W9.heap.size≤g4∧W9.heap.size≤g7∧W9.heap.size≤g8
  box:w'.heap[gb]?=some (.cells (((cs.setIfInBounds 5 (.slice (some ⟨g4,0,none⟩) K10 K10)).setIfInBounds 8 (.slice (some ⟨g7,0,none⟩) K K)).setIfInBounds 9 (.slice (some ⟨g8,0,none⟩) K K)) 42 (0,0))
theorem made5_of {w3 W9:World} {m:Mesh} {pa pb:List Int} {y1 y2:PX} {K K10 K5 gb g6 g4 g7 g8:Nat} {cs:Array Value} (hL:Below w3.heap.size w3 W9) (hR:RawC w3.heap.size y1 y2 m pa pb W9) (h6:W9.heap[g6]?=some (.cells (madeCells #[.int .i64 0] K5) 3 (0,0))) (hb:W9.heap[gb]?=some (.cells cs 42 (0,0)))
    (bb:w3.heap.size≤gb) (j1:gb<y1.lo∨y1.hi≤gb) (j2:gb<y2.lo∨y2.hi≤gb) (n6:g6≠gb) (c1 c2 c3:Array Value) (e1 e2 e3:Nat)
    (k4:(g4=W9.heap.size∧c1=madeCells #[.slice none 0 0] K10∧e1=145)∨(g4=W9.heap.size+1∧c2=madeCells #[.slice none 0 0] K10∧e2=145)∨(g4=W9.heap.size+1+1∧c3=madeCells #[.slice none 0 0] K10∧e3=145))
    (k7:(g7=W9.heap.size∧c1=madeCells #[.slice none 0 0] K∧e1=145)∨(g7=W9.heap.size+1∧c2=madeCells #[.slice none 0 0] K∧e2=145)∨(g7=W9.heap.size+1+1∧c3=madeCells #[.slice none 0 0] K∧e3=145))
    (k8:(g8=W9.heap.size∧c1=madeCells #[.slice none 0 0] K∧e1=145)∨(g8=W9.heap.size+1∧c2=madeCells #[.slice none 0 0] K∧e2=145)∨(g8=W9.heap.size+1+1∧c3=madeCells #[.slice none 0 0] K∧e3=145)) (n1:g4≠g7∧g4≠g8∧g7≠g8) :
    Made5 w3 m pa pb y1 y2 K K10 K5 W9 gb g6 g4 g7 g8 cs (((((((W9.setCell ⟨gb,5,none⟩ (.slice (some ⟨g4,0,none⟩) K10 K10)).setCell ⟨gb,8,none⟩ (.slice (some ⟨g7,0,none⟩) K K)).setCell ⟨gb,9,none⟩ (.slice (some ⟨g8,0,none⟩) K K)).alloc (.cells c1 e1)).alloc (.cells c2 e2)).alloc (.cells c3 e3)).drew):=by
  obtain⟨W,hW⟩:∃ W,W=(((W9.setCell ⟨gb,5,none⟩ (.slice (some ⟨g4,0,none⟩) K10 K10)).setCell ⟨gb,8,none⟩ (.slice (some ⟨g7,0,none⟩) K K)).setCell ⟨gb,9,none⟩ (.slice (some ⟨g8,0,none⟩) K K)):=⟨_,rfl⟩
  have zW:W.heap.size=W9.heap.size:=by rw[hW];simp only[szs]
  have hLW:Below w3.heap.size w3 W:=by rw[hW];exact bw_set0 (bw_set0 (bw_set0 hL bb 5 _) bb 8 _) bb 9 _
  have hRW:RawC w3.heap.size y1 y2 m pa pb W:=by rw[hW];exact((hR.set j1 j2 5 _).set j1 j2 8 _).set j1 j2 9 _
  have h6W:W.heap[g6]?=some (.cells (madeCells #[.int .i64 0] K5) 3 (0,0)):=by rw[hW];exact blk_far (p:=⟨gb,9,none⟩) (blk_far (p:=⟨gb,8,none⟩) (blk_far (p:=⟨gb,5,none⟩) h6 n6 _) n6 _) n6 _
  have hbW:W.heap[gb]?=some (.cells (((cs.setIfInBounds 5 (.slice (some ⟨g4,0,none⟩) K10 K10)).setIfInBounds 8 (.slice (some ⟨g7,0,none⟩) K K)).setIfInBounds 9 (.slice (some ⟨g8,0,none⟩) K K)) 42 (0,0)):=by rw[hW];exact blk_set (blk_set (blk_set hb 5 _) 8 _) 9 _
  rw[←hW]
  clear hW
  have hA:Below W.heap.size W ((((W.alloc (.cells c1 e1)).alloc (.cells c2 e2)).alloc (.cells c3 e3)).drew):=bw_drew (bw_alloc _ (bw_alloc _ (bw_alloc _ (bw_refl W))))
  have a1:((((W.alloc (.cells c1 e1)).alloc (.cells c2 e2)).alloc (.cells c3 e3)).drew).heap[W9.heap.size]?=some (.cells c1 e1 (0,0)):=blk_alloc (blk_alloc (blk_made (by rw[zW])) _) _
  have a2:((((W.alloc (.cells c1 e1)).alloc (.cells c2 e2)).alloc (.cells c3 e3)).drew).heap[W9.heap.size+1]?=some (.cells c2 e2 (0,0)):=blk_alloc (blk_made (by simp only[szs];rw[zW])) _
  have a3:((((W.alloc (.cells c1 e1)).alloc (.cells c2 e2)).alloc (.cells c3 e3)).drew).heap[W9.heap.size+1+1]?=some (.cells c3 e3 (0,0)):=blk_made (by simp only[szs];rw[zW])
  refine⟨bw_then hLW hA,hRW.below hA,blk_below h6W hA,?_,?_,?_,n1,?_,blk_below hbW hA⟩
  · rcases k4 with ⟨rfl,rfl,rfl⟩|⟨rfl,rfl,rfl⟩|⟨rfl,rfl,rfl⟩
    · exact a1
    · exact a2
    · exact a3
  · rcases k7 with ⟨rfl,rfl,rfl⟩|⟨rfl,rfl,rfl⟩|⟨rfl,rfl,rfl⟩
    · exact a1
    · exact a2
    · exact a3
  · rcases k8 with ⟨rfl,rfl,rfl⟩|⟨rfl,rfl,rfl⟩|⟨rfl,rfl,rfl⟩
    · exact a1
    · exact a2
    · exact a3
  · refine⟨?_,?_,?_⟩
    · rcases k4 with ⟨h,_⟩|⟨h,_⟩|⟨h,_⟩ <;> omega
    · rcases k7 with ⟨h,_⟩|⟨h,_⟩|⟨h,_⟩ <;> omega
    · rcases k8 with ⟨h,_⟩|⟨h,_⟩|⟨h,_⟩ <;> omega
theorem NX.raw {W:World} {B g4 g6 g7 g8:Nat} {m:Mesh} {pa pb:List Int} {y1 y2:PX} (h:RawC B y1 y2 m pa pb W) (hK:(nodeCount m.g).toNat≤16)
    (h4:W.heap[g4]?=some (.cells (madeCells #[.slice none 0 0] (10*(nodeCount m.g).toNat)) 145 (0,0))) (h6:W.heap[g6]?=some (.cells (madeCells #[.int .i64 0] (5*(nodeCount m.g).toNat)) 3 (0,0)))
    (h7:W.heap[g7]?=some (.cells (madeCells #[.slice none 0 0] (nodeCount m.g).toNat) 145 (0,0))) (h8:W.heap[g8]?=some (.cells (madeCells #[.slice none 0 0] (nodeCount m.g).toNat) 145 (0,0)))
    (b4:B≤g4) (b6:B≤g6) (b7:B≤g7) (b8:B≤g8) (n47:g4≠g7) (n48:g4≠g8) (n78:g7≠g8) (n6m:g6<y1.lo∨y1.hi≤g6) (n6c:g6<y2.lo∨y2.hi≤g6) :
    NX W B { newN m pa pb with owners:=[] } ⟨y1.A,y2.A,y2.A2,some ⟨g4,0,none⟩,none,some ⟨g6,0,none⟩,some ⟨g7,0,none⟩,some ⟨g8,0,none⟩,y1.c,y2.c,y2.c2,10*(nodeCount m.g).toNat,0,5*(nodeCount m.g).toNat,(nodeCount m.g).toNat,(nodeCount m.g).toNat⟩ (List.replicate (10*(nodeCount m.g).toNat) (.slice none 0 0)) (List.replicate (nodeCount m.g).toNat (.slice none 0 0)) (List.replicate (nodeCount m.g).toNat (.slice none 0 0)):=by
  obtain⟨⟨a1,a2,a3,a4⟩,c1,c2,c3,c4,c5,c6⟩:=h
  exact NX.made a4 c4 c5 c6 a1 (by omega) c1 hK h4 h6 h7 h8 b4 b6 b7 b8 n47 n48 n78 n6m n6c
theorem OApart.raw (n:Net) (q:NA) (h0:q.a5=none):OApart n q:=fun i _ _=>by
  rw[h0]
  exact apart_comm (.inl rfl)
def ZQ:NA:=⟨none,none,none,none,none,none,none,none,0,0,0,0,0,0,0,0⟩
theorem NX.zero (W:World) (B:Nat):NX W B zeroN ZQ [] [] []:=by
  have n0:∀ x,W.ownsRow B 145 x (.slice none 0 0) 0 []:=fun x=>⟨by simp,.inl ⟨rfl,rfl⟩⟩
  refine⟨Kd.R_nil _ _ _ _ _,Kd.R_nil _ _ _ _ _,Kd.R_nil _ _ _ _ _,Kd.R_nil _ _ _ _ _,Kd.R_nil _ _ _ _ _,n0 1,n0 1,n0 1,FR.nil _ _,?_,?_⟩
  · exact all5 (.inl rfl) (.inl rfl) (.inl rfl) (.inl rfl) (.inl rfl) (.inl rfl) (.inl rfl) (.inl rfl) (.inl rfl) (.inl rfl)
  · exact all3 (.inl rfl) (.inl rfl) (.inl rfl)
section
variable {w w1:World} {lo b:Nat} {n:Net} {q:NA} {v4 v7 v8:List Value}
theorem BT.grownI {v:Value} {y:List Int} (h:BT w b n q) (hg:w.grownBy w1 v.ownBlock) (hr:Kd.R (Kd.int .i64) 3 w lo (fun _=>True) v y):BT w1 b n q:=by
  obtain⟨inner,hin⟩:=Kd.R_own hr
  exact blk_grown h hg (own_ne hin h (by decide))
theorem BT.setOwn (h:BT w b n q) (A:Option Addr) (c:Nat) (l:List Int):BT (w.setCell ⟨b,6,none⟩ (.slice A l.length c)) b { n with owners:=l } { q with a5:=A,c5:=c }:=(blk_set h 6 (.slice A l.length c)).trans rfl
theorem ownStep (hN:NX w lo n q v4 v7 v8) (hA:OApart n q) (hB:BT w b n q) {A:Option Addr} {c:Nat} {l:List Int} (hg:w.grownBy w1 (Value.slice q.a5 n.owners.length q.c5).ownBlock) (hr:Kd.R (Kd.int .i64) 3 w1 lo (fun _=>True) (.slice A l.length c) l) (hat:Anew w (.slice A l.length c) (.slice q.a5 n.owners.length q.c5)) :
    NX (w1.setCell ⟨b,6,none⟩ (.slice A l.length c)) lo { n with owners:=l } { q with a5:=A,c5:=c } v4 v7 v8∧OApart { n with owners:=l } { q with a5:=A,c5:=c }∧BT (w1.setCell ⟨b,6,none⟩ (.slice A l.length c)) b { n with owners:=l } { q with a5:=A,c5:=c }:=by
  obtain⟨h1,h2⟩:=hN.growOwners hA hg hr hat
  have h3:=hB.grownI hg hN.owners
  exact⟨h1.typed h3.blk (by decide) (by decide) (by decide) 6 _,h2,h3.setOwn A c l⟩
end
set_option maxHeartbeats 16000000 in
set_option maxRecDepth 100000 in
theorem spec_NetNew (m:Mesh) (pa pb:List Int) (A1 A2 A3:Option Addr) (c1 c2 c3:Nat) (w:World) (hm:Kd.C (Kd.int .i64) w A1 m.br.length m.br) (hn:m.br.length≤2097152) (ha:Kd.C (Kd.int .i64) w A2 pa.length pa) (ka:pa.length≤2097152) (hb:Kd.C (Kd.int .i64) w A3 pb.length pb) (kb:pb.length≤2097152) :
  Calls Tryz.prog 105 #[.agg #[.int .i64 m.g.w,.int .i64 m.g.h,.slice A1 m.br.length c1],.agg #[.slice A2 pa.length c2,.slice A3 pb.length c3]] w fun e w'=>GotNV w w' (netNewN m pa pb) (.bool (classesOk m pa pb)) e∧Below w.heap.size w w':=by
 have HM:=Lib.hid hm
 have HA:=Lib.hid ha
 have HB:=Lib.hid hb
 clear hm ha hb
 obtain⟨wa,ewa⟩:∃ z,z=((w.alloc (.cells #[.int .i64 m.g.w,.int .i64 m.g.h,.slice A1 m.br.length c1] 28)).alloc (.cells #[.slice A2 pa.length c2,.slice A3 pb.length c3] 32)).alloc (.cells #[.int .i64 0,.int .i64 0,.slice none 0 0,.slice none 0 0,.slice none 0 0,.slice none 0 0,.slice none 0 0,.slice none 0 0,.slice none 0 0,.slice none 0 0,.int .i64 0] 42):=⟨_,rfl⟩
 have hwa:Below w.heap.size w wa:=by rw[ewa];exact bw_alloc _ (bw_alloc _ (bw_alloc _ (bw_refl w)))
 have HXM:Hid (Box wa w.heap.size #[.int .i64 m.g.w,.int .i64 m.g.h,.slice A1 m.br.length c1]):=Lib.hid (by rw[ewa];exact((Box.new w w.heap.size _ 28 rfl).alloc _).alloc _)
 have HXC:Hid (Box wa (w.heap.size+1) #[.slice A2 pa.length c2,.slice A3 pb.length c3]):=Lib.hid (by rw[ewa];exact(Box.new (w.alloc (.cells #[.int .i64 m.g.w,.int .i64 m.g.h,.slice A1 m.br.length c1] 28)) (w.heap.size+1) _ 32 (by simp only[szs])).alloc _)
 have HZ:Hid (BN wa (w.heap.size+2)):=Lib.hid (by rw[ewa];have h:=BT.new ((w.alloc (.cells #[.int .i64 m.g.w,.int .i64 m.g.h,.slice A1 m.br.length c1] 28)).alloc (.cells #[.slice A2 pa.length c2,.slice A3 pb.length c3] 32)) zeroN ZQ;simp only[szs] at h;exact h.bn)
 have zwa:wa.heap.size=w.heap.size+3:=by rw[ewa];simp only[szs]
 have g0:(((w.alloc (.cells #[.int .i64 m.g.w,.int .i64 m.g.h,.slice A1 m.br.length c1] 28)).alloc (.cells #[.slice A2 pa.length c2,.slice A3 pb.length c3] 32)).alloc (.cells #[.int .i64 0,.int .i64 0,.slice none 0 0,.slice none 0 0,.slice none 0 0,.slice none 0 0,.slice none 0 0,.slice none 0 0,.slice none 0 0,.slice none 0 0,.int .i64 0] 42)).cell? ⟨w.heap.size,0,none⟩=some (.int .i64 m.g.w):=by rw[←ewa];exact HXM.out.get 0
 have g1:(((w.alloc (.cells #[.int .i64 m.g.w,.int .i64 m.g.h,.slice A1 m.br.length c1] 28)).alloc (.cells #[.slice A2 pa.length c2,.slice A3 pb.length c3] 32)).alloc (.cells #[.int .i64 0,.int .i64 0,.slice none 0 0,.slice none 0 0,.slice none 0 0,.slice none 0 0,.slice none 0 0,.slice none 0 0,.slice none 0 0,.slice none 0 0,.int .i64 0] 42)).cell? ⟨w.heap.size,1,none⟩=some (.int .i64 m.g.h):=by rw[←ewa];exact HXM.out.get 1
 have g2:(((w.alloc (.cells #[.int .i64 m.g.w,.int .i64 m.g.h,.slice A1 m.br.length c1] 28)).alloc (.cells #[.slice A2 pa.length c2,.slice A3 pb.length c3] 32)).alloc (.cells #[.int .i64 0,.int .i64 0,.slice none 0 0,.slice none 0 0,.slice none 0 0,.slice none 0 0,.slice none 0 0,.slice none 0 0,.slice none 0 0,.slice none 0 0,.int .i64 0] 42)).cell? ⟨w.heap.size,2,none⟩=some (.slice A1 m.br.length c1):=by rw[←ewa];exact HXM.out.get 2
 have g3:(((w.alloc (.cells #[.int .i64 m.g.w,.int .i64 m.g.h,.slice A1 m.br.length c1] 28)).alloc (.cells #[.slice A2 pa.length c2,.slice A3 pb.length c3] 32)).alloc (.cells #[.int .i64 0,.int .i64 0,.slice none 0 0,.slice none 0 0,.slice none 0 0,.slice none 0 0,.slice none 0 0,.slice none 0 0,.slice none 0 0,.slice none 0 0,.int .i64 0] 42)).cell? ⟨w.heap.size+1,0,none⟩=some (.slice A2 pa.length c2):=by rw[←ewa];exact HXC.out.get 0
 have g4x:(((w.alloc (.cells #[.int .i64 m.g.w,.int .i64 m.g.h,.slice A1 m.br.length c1] 28)).alloc (.cells #[.slice A2 pa.length c2,.slice A3 pb.length c3] 32)).alloc (.cells #[.int .i64 0,.int .i64 0,.slice none 0 0,.slice none 0 0,.slice none 0 0,.slice none 0 0,.slice none 0 0,.slice none 0 0,.slice none 0 0,.slice none 0 0,.int .i64 0] 42)).cell? ⟨w.heap.size+1,1,none⟩=some (.slice A3 pb.length c3):=by rw[←ewa];exact HXC.out.get 1
 go_enter Tryz.func105,Tryz.ntmps105
 go_wp2_with fail
 rw[←ewa]
 clear g0 g1 g2 g3 g4x ewa
 refine(spec_ClassesOk m pa pb A1 A2 A3 c1 c2 c3 _ (Kd.C_below HM.out hwa) hn (Kd.C_below HA.out hwa) ka (Kd.C_below HB.out hwa) kb).mono ?_
 rintro e w2 ⟨rfl,Bb⟩
 have HW2:Hid (Below w.heap.size w w2):=Lib.hid (bw_then hwa Bb)
 have HXM2:=Lib.hid (HXM.out.below Bb)
 have HXC2:=Lib.hid (HXC.out.below Bb)
 have HZ2:=Lib.hid (HZ.out.below Bb)
 have zw2:=bw_size Bb
 clear Bb hwa HXM HXC HZ
 cases hk:classesOk m pa pb
 ·have HE:Hid (netNewN m pa pb=zeroN):=Lib.hid (by unfold netNewN;rw[hk];rfl)
  obtain⟨⟨ry0,rv0⟩,⟨ry1,rv1⟩,⟨ry2,rv2⟩,⟨ry3,rv3⟩,⟨ry4,rv4⟩,⟨ry5,rv5⟩,⟨ry6,rv6⟩,⟨ry7,rv7⟩,⟨ry8,rv8⟩,⟨ry9,rv9⟩,⟨ry10,rv10⟩,rz0,rz1,rz2,rz3,rz4,rz5,rz6,rz7,rz8,rz9,rz10⟩:=allBN HZ2.out
  have zl:=HZ2.out.lt
  go_wp2
  obtain⟨W9,e9⟩:∃ z,z=putN w2 (w.heap.size+2) zeroN ZQ:=⟨_,rfl⟩
  have HB9:Hid (BT W9 (w.heap.size+2) zeroN ZQ):=Lib.hid (by rw[e9];exact putN_BT HZ2.out)
  have HL9:Hid (Below w.heap.size w W9):=Lib.hid (by rw[e9];exact below_put HW2.out (by omega))
  unfold putN at e9
  simp only[zeroN,ZQ,List.length_nil] at e9
  rw[←e9]
  clear e9
  exact bodyPost_ret (results_cell_row2 Tryz.results105 _ _ (w.heap.size+2) 42 _ (0,0) _ rfl HB9.out Tryz.underlying42 rfl (by kernel_rfl)) rfl (by rw[HE.out,hk];exact⟨⟨_,_,_,_,rfl,NX.zero _ _⟩,HL9.out⟩)
 ·have HE:Hid (netNewN m pa pb=newN m pa pb):=Lib.hid (by unfold netNewN;rw[hk];rfl)
  have x0:w2.cell? ⟨w.heap.size,0,none⟩=some (.int .i64 m.g.w):=HXM2.out.get 0
  have x1:w2.cell? ⟨w.heap.size,1,none⟩=some (.int .i64 m.g.h):=HXM2.out.get 1
  have xl:=HXM2.out.lt
  go_wp2_with fail
  refine(spec_NodeCount m.g _).mono ?_
  rintro e w3 ⟨rfl,hb3⟩
  have hcn:=count_nat m.g
  have k16':=count_le m.g
  obtain⟨K,hK⟩:∃ K:Nat,nodeCount m.g=(K:Int):=⟨(nodeCount m.g).toNat,by omega⟩
  have HKN:Hid ((nodeCount m.g).toNat=K):=Lib.hid (by omega)
  have k16:K≤16:=by omega
  rw[hK]
  obtain⟨K10,eK10⟩:∃ z,z=10*K:=⟨_,rfl⟩
  obtain⟨K5,eK5⟩:∃ z,z=5*K:=⟨_,rfl⟩
  have HK10:=Lib.hid eK10
  have HK5:=Lib.hid eK5
  have hw10:IntKind.i64.wrap (10*(K:Int))=(K10:Int):=by rw[IntWalk.i64_in _ (by omega)];omega
  have hw5:IntKind.i64.wrap (5*(K:Int))=(K5:Int):=by rw[IntWalk.i64_in _ (by omega)];omega
  have MK10:Hid (∀ W:World,(Instr.makeSlice 40 (.int .i64 (K10:Int)) (.int .i64 (K10:Int))).run Tryz.prog W=.ok (.slice (some ⟨W.heap.size,0,none⟩) K10 K10) (W.alloc (.cells (madeCells #[.slice none 0 0] K10) 145))):=Lib.hid (fun W=>run_make_row' 40 145 (.slice none 0 0) 24 Tryz.underlying40 info_B rfl .i64 .i64 K10 (by omega) (by omega) W)
  have MK1:Hid (∀ W:World,(Instr.makeSlice 40 (.int .i64 (K:Int)) (.int .i64 (K:Int))).run Tryz.prog W=.ok (.slice (some ⟨W.heap.size,0,none⟩) K K) (W.alloc (.cells (madeCells #[.slice none 0 0] K) 145))):=Lib.hid (fun W=>run_make_row' 40 145 (.slice none 0 0) 24 Tryz.underlying40 info_B rfl .i64 .i64 K (by omega) (by omega) W)
  have MK5:Hid (∀ W:World,(Instr.makeSlice 26 (.int .i64 (K5:Int)) (.int .i64 (K5:Int))).run Tryz.prog W=.ok (.slice (some ⟨W.heap.size,0,none⟩) K5 K5) (W.alloc (.cells (madeCells #[.int .i64 0] K5) 3))):=Lib.hid (fun W=>run_make_row' 26 3 (.int .i64 0) 8 Tryz.underlying26 info_int rfl .i64 .i64 K5 (by omega) (by omega) W)
  clear eK10 eK5 hK hcn k16' x0 x1 xl
  have HW3:Hid (Below w.heap.size w w3):=Lib.hid (bw_then HW2.out hb3)
  have HXM3:=Lib.hid (HXM2.out.below hb3)
  have HXC3:=Lib.hid (HXC2.out.below hb3)
  have HZ3:=Lib.hid (HZ2.out.below hb3)
  have HM3:=Lib.hid (Kd.C_below HM.out HW3.out)
  have HA3:=Lib.hid (Kd.C_below HA.out HW3.out)
  have HB3:=Lib.hid (Kd.C_below HB.out HW3.out)
  have zw3:=bw_size hb3
  have l1:=HXM3.out.lt
  have l2:=HXC3.out.lt
  clear hb3 HXM2 HXC2 HZ2 HM HA HB HW2
  have k10:K10≤160:=by have:=HK10.out;omega
  go_wp2_with fail
  refine wp_region_tz w3.heap.size (fun i=>if i=6 then .cells (madeCells #[.slice none 0 0] K10) 145 else if i=9 then .cells (madeCells #[.int .i64 0] K5) 3 else if i=11 then .cells (madeCells #[.slice none 0 0] K) 145 else if i=13 then .cells (madeCells #[.slice none 0 0] K) 145 else if i=15 then .cells #[.int .i64 0,.int .i64 0,.slice none 0 0,.slice none 0 0,.slice none 0 0,.slice none 0 0,.slice none 0 0,.slice none 0 0,.slice none 0 0,.slice none 0 0,.int .i64 0] 42 else .cells #[] 0) (fun i g=>if i=6 then .slice (some ⟨g,0,none⟩) K10 K10 else if i=9 then .slice (some ⟨g,0,none⟩) K5 K5 else if i=11 then .slice (some ⟨g,0,none⟩) K K else if i=13 then .slice (some ⟨g,0,none⟩) K K else if i=15 then .pointer (some ⟨g,0,none⟩) else undef) (fun W=>Below w3.heap.size w3 W) 16 [(0,.quiet),(1,.chain),(2,.quiet),(3,.chain),(4,.quiet),(5,.quiet),(6,.lit),(7,.quiet),(8,.quiet),(9,.lit),(10,.quiet),(11,.lit),(12,.quiet),(13,.lit),(14,.quiet),(15,.lit)] (by kernel_rfl) (by kernel_rfl) (by kernel_rfl) (by kernel_rfl) (by kernel_rfl) (by kernel_rfl) (by kernel_rfl) (by kernel_rfl) (bw_drew (bw_refl _)) ⟨fun w o h=>bw_alloc o h,fun w h=>bw_size h⟩ (fun _=>True) trivial (fun _ _ _ _ _=>trivial) ?_
  refine wpTz_v (some 17) (.agg #[.int .i64 m.g.w,.int .i64 m.g.h,.slice A1 m.br.length c1]) rfl rfl (by rfl) (fun W hC=>?_) ?_
  ·have h0:W.cell? ⟨w.heap.size,0,none⟩=some (.int .i64 m.g.w):=(Box.below HXM3.out hC).get 0
   have h1:W.cell? ⟨w.heap.size,1,none⟩=some (.int .i64 m.g.h):=(Box.below HXM3.out hC).get 1
   have h2:W.cell? ⟨w.heap.size,2,none⟩=some (.slice A1 m.br.length c1):=(Box.below HXM3.out hC).get 2
   clear hC
   go_simp
   try rfl
  try simp only[Act.put,nms]
  refine wpTz_d (some 18) rfl rfl (by rfl) (PX.mk0 none 0 0 0) (fun y=>.agg #[.int .i64 m.g.w,.int .i64 m.g.h,.slice y.A m.br.length y.c]) (fun y W=>gI w3.heap.size y m.br W) (fun y=>(y.lo,y.hi)) (fun W hF hC=>?_) (fun y W W' h hb=>h.stp ⟨hb⟩) (fun y1=>?_)
  ·refine LoOp.enter (by go_simp;first|done|exact⟨rfl,rfl⟩|rfl) ?_
   refine(spec_l15Mesh m A1 c1 W (Kd.C_below HM3.out hC) hn).mono ?_
   rintro e W1 ⟨hg1,Ba⟩
   obtain⟨v,rfl,hO⟩:=hg1
   obtain⟨A,c,rfl⟩:=Kd.R_slice hO
   exact⟨_,rfl,PX.mk0 A c W.heap.size W1.heap.size,rfl,bw_then hC Ba,⟨bw_size hC,bw_size Ba,Nat.le_refl _,RU.of hO (Nat.le_refl _) (Nat.le_refl _)⟩,Ba,Nat.le_refl _,Nat.le_refl _⟩
  obtain⟨AM,cM,AM2,cM2,vsM,lM,hM⟩:=y1
  dsimp only
  try simp only[Act.put,nms]
  refine wpTz_v (some 19) (.agg #[.slice A2 pa.length c2,.slice A3 pb.length c3]) rfl rfl (by rfl) (fun W hC=>?_) ?_
  ·have h0:W.cell? ⟨w.heap.size+1,0,none⟩=some (.slice A2 pa.length c2):=(Box.below HXC3.out hC).get 0
   have h1:W.cell? ⟨w.heap.size+1,1,none⟩=some (.slice A3 pb.length c3):=(Box.below HXC3.out hC).get 1
   clear hC
   go_simp
   try rfl
  try simp only[Act.put,nms]
  refine wpTz_d (some 20) rfl rfl (by rfl) (PX.mk0 none 0 0 0) (fun y=>.agg #[.slice y.A pa.length y.c,.slice y.A2 pb.length y.c2]) (fun y W=>RawC w3.heap.size ⟨AM,cM,AM2,cM2,vsM,lM,hM⟩ y m pa pb W) (fun y=>(y.lo,y.hi)) (fun W hF hC=>?_) (fun y W W' h hb=>h.below hb) (fun y2=>?_)
  ·refine LoOp.enter (by go_simp;first|done|exact⟨rfl,rfl⟩|rfl) ?_
   refine(spec_l15Classes pa pb A2 A3 c2 c3 W (Kd.C_below HA3.out hC) ka (Kd.C_below HB3.out hC) kb).mono ?_
   rintro e W1 ⟨hg1,Ba⟩
   obtain⟨va,vb,rfl,hO1,hO2,hap⟩:=hg1
   obtain⟨Aa,ca,rfl⟩:=Kd.R_slice hO1
   obtain⟨Ab,cb,rfl⟩:=Kd.R_slice hO2
   exact⟨_,rfl,⟨Aa,ca,Ab,cb,[],W.heap.size,W1.heap.size⟩,rfl,bw_then hC Ba,⟨hF.stp ⟨Ba⟩,hF.2.2.1,bw_size Ba,Nat.le_refl _,RU.of hO1 (Nat.le_refl _) (Nat.le_refl _),RU.of hO2 (Nat.le_refl _) (Nat.le_refl _),hap⟩,Ba,Nat.le_refl _,Nat.le_refl _⟩
  obtain⟨AA,cA,AB,cB,vsC,lC,hCC⟩:=y2
  dsimp only
  try simp only[Act.put,nms]
  refine wpTz_v (some 21) (.int .i64 (K:Int)) rfl rfl (by rfl) (fun W hC=>?_) ?_
  ·clear hC
   go_simp
   try rfl
  try simp only[Act.put,nms]
  refine wpTz_v (some 22) (.int .i64 (K10:Int)) rfl rfl (by rfl) (fun W hC=>?_) ?_
  ·clear hC
   go_simp
   try rfl
  try simp only[Act.put,nms]
  refine wpTz_l (some 23) rfl rfl (by rfl) (fun W=>?_) (fun g4=>?_)
  ·have hk:=MK10.out W
   go_simp
   try rfl
  try simp only[Act.put,nms]
  refine wpTz_v (some 24) (.int .i64 (K:Int)) rfl rfl (by rfl) (fun W hC=>?_) ?_
  ·clear hC
   go_simp
   try rfl
  try simp only[Act.put,nms]
  refine wpTz_v (some 25) (.int .i64 (K5:Int)) rfl rfl (by rfl) (fun W hC=>?_) ?_
  ·clear hC
   go_simp
   try rfl
  try simp only[Act.put,nms]
  refine wpTz_l (some 26) rfl rfl (by rfl) (fun W=>?_) (fun g6=>?_)
  ·have hk:=MK5.out W
   go_simp
   try rfl
  try simp only[Act.put,nms]
  refine wpTz_v (some 27) (.int .i64 (K:Int)) rfl rfl (by rfl) (fun W hC=>?_) ?_
  ·clear hC
   go_simp
   try rfl
  try simp only[Act.put,nms]
  refine wpTz_l (some 28) rfl rfl (by rfl) (fun W=>?_) (fun g7=>?_)
  ·have hk:=MK1.out W
   go_simp
   try rfl
  try simp only[Act.put,nms]
  refine wpTz_v (some 29) (.int .i64 (K:Int)) rfl rfl (by rfl) (fun W hC=>?_) ?_
  ·clear hC
   go_simp
   try rfl
  try simp only[Act.put,nms]
  refine wpTz_l (some 30) rfl rfl (by rfl) (fun W=>?_) (fun g8=>?_)
  ·have hk:=MK1.out W
   go_simp
   try rfl
  try simp only[Act.put,nms]
  refine wpTz_v (some 31) (.agg #[.int .i64 m.g.w,.int .i64 m.g.h,.slice AM m.br.length cM,.slice AA pa.length cA,.slice AB pb.length cB,.slice (some ⟨g4,0,none⟩) K10 K10,.slice none 0 0,.slice (some ⟨g6,0,none⟩) K5 K5,.slice (some ⟨g7,0,none⟩) K K,.slice (some ⟨g8,0,none⟩) K K,.int .i64 0]) rfl rfl (by rfl) (fun W hC=>?_) ?_
  ·clear hC
   go_simp
   try rfl
  try simp only[Act.put,nms]
  refine wpTz_l (some 7) rfl rfl (by rfl) (fun W=>?_) (fun gb=>?_)
  ·go_simp
   try rfl
  try simp only[Act.put,nms]
  refine wpTz_z (fun w8 hF hC=>?_)
  obtain⟨⟨⟨⟨⟨hR,b4,h4,i4⟩,b6,h6,i6⟩,b7,h7,i7⟩,b8,h8,i8⟩,bb,hb,ib⟩:=hF
  have hbn:BN w8 gb:=⟨_,hb,rfl⟩
  obtain⟨⟨ry0,rv0⟩,⟨ry1,rv1⟩,⟨ry2,rv2⟩,⟨ry3,rv3⟩,⟨ry4,rv4⟩,⟨ry5,rv5⟩,⟨ry6,rv6⟩,⟨ry7,rv7⟩,⟨ry8,rv8⟩,⟨ry9,rv9⟩,⟨ry10,rv10⟩,rz0,rz1,rz2,rz3,rz4,rz5,rz6,rz7,rz8,rz9,rz10⟩:=allBN hbn
  have hbl:=hbn.lt
  refine⟨_,rfl,by rfl,?_⟩
  go_simp
  obtain⟨W9,e9⟩:∃ z,z=putN w8 gb { newN m pa pb with owners:=[] } ⟨AM,AA,AB,some ⟨g4,0,none⟩,none,some ⟨g6,0,none⟩,some ⟨g7,0,none⟩,some ⟨g8,0,none⟩,cM,cA,cB,10*(nodeCount m.g).toNat,0,5*(nodeCount m.g).toNat,(nodeCount m.g).toNat,(nodeCount m.g).toNat⟩:=⟨_,rfl⟩
  have HB9:Hid (BT W9 gb { newN m pa pb with owners:=[] } ⟨AM,AA,AB,some ⟨g4,0,none⟩,none,some ⟨g6,0,none⟩,some ⟨g7,0,none⟩,some ⟨g8,0,none⟩,cM,cA,cB,10*(nodeCount m.g).toNat,0,5*(nodeCount m.g).toNat,(nodeCount m.g).toNat,(nodeCount m.g).toNat⟩):=Lib.hid (by rw[e9];exact putN_BT hbn)
  have HL9:Hid (Below w3.heap.size w3 W9):=Lib.hid (by rw[e9];exact below_put hC bb)
  have j4:=i4;have j6:=i6;have j7:=i7;have j8:=i8;have jb:=ib
  simp only[List.forall_mem_cons,List.not_mem_nil,false_implies,implies_true,and_true] at j4 j6 j7 j8 jb
  rw[show K10=10*(nodeCount m.g).toNat by rw[HKN.out];exact HK10.out] at h4
  rw[show K5=5*(nodeCount m.g).toNat by rw[HKN.out];exact HK5.out] at h6
  rw[show K=(nodeCount m.g).toNat from HKN.out.symm] at h7 h8
  have hNX:=NX.raw hR (by rw[HKN.out];exact k16) h4 h6 h7 h8 b4 b6 b7 b8 (by omega) (by omega) (by omega) (by dsimp only;omega) (by dsimp only;omega)
  have HN9:Hid (NX W9 w3.heap.size { newN m pa pb with owners:=[] } ⟨AM,AA,AB,some ⟨g4,0,none⟩,none,some ⟨g6,0,none⟩,some ⟨g7,0,none⟩,some ⟨g8,0,none⟩,cM,cA,cB,10*(nodeCount m.g).toNat,0,5*(nodeCount m.g).toNat,(nodeCount m.g).toNat,(nodeCount m.g).toNat⟩ (List.replicate (10*(nodeCount m.g).toNat) (.slice none 0 0)) (List.replicate (nodeCount m.g).toNat (.slice none 0 0)) (List.replicate (nodeCount m.g).toNat (.slice none 0 0))):=Lib.hid (by rw[e9];exact hNX.put hbn)
  unfold putN at e9
  simp only[newN,List.length_replicate,List.length_nil,HKN.out,HK10.out.symm,HK5.out.symm] at e9
  rw[←e9]
  have HGB:=Lib.hid bb
  clear e9 hC hR hb h4 h6 h7 h8 hNX hbn i4 i6 i7 i8 ib
  go_wp2_with fail
  go_loopw [8] (fun i wr=>∃ (k:Nat) (A:Option Addr) (c:Nat),i=.int .i64 k∧k≤K10∧Hid (NX wr w3.heap.size { newN m pa pb with owners:=List.replicate k (-1) } ⟨AM,AA,AB,some ⟨g4,0,none⟩,A,some ⟨g6,0,none⟩,some ⟨g7,0,none⟩,some ⟨g8,0,none⟩,cM,cA,cB,10*(nodeCount m.g).toNat,c,5*(nodeCount m.g).toNat,(nodeCount m.g).toNat,(nodeCount m.g).toNat⟩ (List.replicate (10*(nodeCount m.g).toNat) (.slice none 0 0)) (List.replicate (nodeCount m.g).toNat (.slice none 0 0)) (List.replicate (nodeCount m.g).toNat (.slice none 0 0)))∧Hid (OApart { newN m pa pb with owners:=List.replicate k (-1) } ⟨AM,AA,AB,some ⟨g4,0,none⟩,A,some ⟨g6,0,none⟩,some ⟨g7,0,none⟩,some ⟨g8,0,none⟩,cM,cA,cB,10*(nodeCount m.g).toNat,c,5*(nodeCount m.g).toNat,(nodeCount m.g).toNat,(nodeCount m.g).toNat⟩)∧Hid (BT wr gb { newN m pa pb with owners:=List.replicate k (-1) } ⟨AM,AA,AB,some ⟨g4,0,none⟩,A,some ⟨g6,0,none⟩,some ⟨g7,0,none⟩,some ⟨g8,0,none⟩,cM,cA,cB,10*(nodeCount m.g).toNat,c,5*(nodeCount m.g).toNat,(nodeCount m.g).toNat,(nodeCount m.g).toNat⟩)∧Hid (Below w3.heap.size w3 wr)) (fun i _=>K10 - (intOf i).toNat)
  case atStart=>exact⟨0,none,0,rfl,Nat.zero_le _,Lib.hid HN9.out,Lib.hid (OApart.raw _ _ rfl),Lib.hid HB9.out,Lib.hid HL9.out⟩
  case round=>
   obtain⟨k,A,c,rfl,hk,HNk,HAk,HBk,HLk⟩:=hrel
   have xb:=HBk.out.lt
   by_cases hlt:k<K10
   ·have i0:(k:Int)<(K10:Int):=by omega
    have k0:(0:Int)≤(k:Int):=by omega
    have HO:Hid (Kd.R (Kd.int .i64) 3 wr w3.heap.size (fun _=>True) (.slice A k c) (List.replicate k (-1))):=Lib.hid (by have h:=HNk.out.owners;simp only[List.length_replicate] at h;exact h)
    have y6:wr.cell? ⟨gb,6,none⟩=some (.slice A k c):=by
     have h:wr.cell? ⟨gb,6,none⟩=some (.slice A (List.replicate k (-1:Int)).length c):=HBk.out.box.get 6
     rwa [List.length_replicate] at h
    have hz3:=bw_size HLk.out
    go_wp2_with (at_builtin;refine app_intN (B:=w3.heap.size) rfl (.tmp 39) (.tmp 40) rfl _ (List.replicate k (-1)) (-1) rfl rfl HO.out hz3 (by simp only[List.length_replicate];omega) ?_;intro v1 w1 HO1 hg1 ha1;obtain⟨A1x,c1x,rfl⟩:=Kd.R_slice HO1;have e1:List.replicate k (-1:Int)++[-1]=List.replicate (k+1) (-1):=(List.replicate_succ' ..).symm;rw[e1] at HO1 ha1 ⊢;have hBg:=HBk.out.grownI (v:=.slice A k c) hg1 HO.out;have hst:=ownStep HNk.out HAk.out HBk.out (by simp only[List.length_replicate];exact hg1) HO1 (by simp only[List.length_replicate] at ha1 ⊢;exact ha1);obtain⟨ry,rv⟩:=hBg.bn.get 6 (by omega);have rz:=hBg.bn.frozen 6;have hl1:=hBg.lt;have HLg:Hid (Below w3.heap.size w3 w1):=Lib.hid (HLk.out.grown hg1 hz3 (fun j hj=>Kd.R_base HO.out j hj));have HST:=Lib.hid hst;clear hst hBg HO1 ha1 hg1;rw[List.length_replicate])
    obtain⟨W8,e8⟩:∃ z,z=w1.setCell ⟨gb,6,none⟩ (.slice A1x (List.replicate (k+1) (-1:Int)).length c1x):=⟨_,rfl⟩
    have HS8:=HST.out
    rw[←e8] at HS8
    have HL8:Hid (Below w3.heap.size w3 W8):=Lib.hid (by rw[e8];exact bw_set0 HLg.out HGB.out 6 _)
    rw[List.length_replicate] at e8
    try rw[←e8]
    go_roundw
    case rel=>exact⟨k+1,A1x,c1x,by go_num,by omega,Lib.hid HS8.1,Lib.hid HS8.2.1,Lib.hid HS8.2.2,Lib.hid HL8.out⟩
    case measure=>simp[intOf];omega
   ·obtain rfl:k=K10:=by omega
    have i0:¬ (k:Int)<(k:Int):=by omega
    have HZk:Hid (BN wr (w.heap.size+2)):=Lib.hid (HZ3.out.low HLk.out (by omega))
    have hKK:=HK10.out
    obtain⟨NN,hNN⟩:∃ z,z=newN m pa pb:=⟨_,rfl⟩
    have eNN:({ newN m pa pb with owners:=List.replicate k (-1) }:Net)=NN:=by rw[hNN,hKK,←HKN.out];rfl
    rw[eNN] at HNk HBk
    have HNL:Hid (NN.mesh=m∧NN.pa=pa∧NN.pb=pb∧NN.bufs.length=k∧NN.owners.length=k∧NN.turns.length=K5∧NN.srcs.length=K∧NN.arrs.length=K∧NN.time=0):=Lib.hid (by
     have e5:=HK5.out
     have e1:=HKN.out
     subst hNN
     simp only[newN,List.length_replicate,e1]
     exact⟨trivial,trivial,trivial,by omega,by omega,by omega,trivial,trivial,trivial⟩)
    have HNN:=Lib.hid hNN
    clear hNN
    have box11:Box wr gb #[.int .i64 NN.mesh.g.w,.int .i64 NN.mesh.g.h,.slice AM NN.mesh.br.length cM,.slice AA NN.pa.length cA,.slice AB NN.pb.length cB,.slice (some ⟨g4,0,none⟩) NN.bufs.length (10*(nodeCount m.g).toNat),.slice A NN.owners.length c,.slice (some ⟨g6,0,none⟩) NN.turns.length (5*(nodeCount m.g).toNat),.slice (some ⟨g7,0,none⟩) NN.srcs.length (nodeCount m.g).toNat,.slice (some ⟨g8,0,none⟩) NN.arrs.length (nodeCount m.g).toNat,.int .i64 NN.time]:=HBk.out.box
    obtain⟨yb0,yb1,yb2,yb3,yb4,yb5,yb6,yb7,yb8,yb9,yb10⟩:=all11 box11
    clear box11
    obtain⟨⟨rq0,ru0⟩,⟨rq1,ru1⟩,⟨rq2,ru2⟩,⟨rq3,ru3⟩,⟨rq4,ru4⟩,⟨rq5,ru5⟩,⟨rq6,ru6⟩,⟨rq7,ru7⟩,⟨rq8,ru8⟩,⟨rq9,ru9⟩,⟨rq10,ru10⟩,rt0,rt1,rt2,rt3,rt4,rt5,rt6,rt7,rt8,rt9,rt10⟩:=allBN HZk.out
    have zl:=HZk.out.lt
    go_wp2
    obtain⟨W9,e9⟩:∃ z,z=putN wr (w.heap.size+2) NN ⟨AM,AA,AB,some ⟨g4,0,none⟩,A,some ⟨g6,0,none⟩,some ⟨g7,0,none⟩,some ⟨g8,0,none⟩,cM,cA,cB,10*(nodeCount m.g).toNat,c,5*(nodeCount m.g).toNat,(nodeCount m.g).toNat,(nodeCount m.g).toNat⟩:=⟨_,rfl⟩
    have HBz:Hid (BT W9 (w.heap.size+2) NN ⟨AM,AA,AB,some ⟨g4,0,none⟩,A,some ⟨g6,0,none⟩,some ⟨g7,0,none⟩,some ⟨g8,0,none⟩,cM,cA,cB,10*(nodeCount m.g).toNat,c,5*(nodeCount m.g).toNat,(nodeCount m.g).toNat,(nodeCount m.g).toNat⟩):=Lib.hid (by rw[e9];exact putN_BT HZk.out)
    have HNz:=Lib.hid (show NX W9 _ NN ⟨AM,AA,AB,some ⟨g4,0,none⟩,A,some ⟨g6,0,none⟩,some ⟨g7,0,none⟩,some ⟨g8,0,none⟩,cM,cA,cB,10*(nodeCount m.g).toNat,c,5*(nodeCount m.g).toNat,(nodeCount m.g).toNat,(nodeCount m.g).toNat⟩ (List.replicate (10*(nodeCount m.g).toNat) (.slice none 0 0)) (List.replicate (nodeCount m.g).toNat (.slice none 0 0)) (List.replicate (nodeCount m.g).toNat (.slice none 0 0)) from by rw[e9];exact HNk.out.put HZk.out)
    have HLz:Hid (Below w.heap.size w W9):=Lib.hid (by rw[e9];exact below_put (bw_trans HW3.out HLk.out (by omega)) (by omega))
    unfold putN at e9
    try dsimp only at e9
    rw[←e9]
    clear e9
    exact bodyPost_ret (results_cell_row2 Tryz.results105 _ _ (w.heap.size+2) 42 _ (0,0) _ rfl HBz.out Tryz.underlying42 rfl (by kernel_rfl)) rfl (by rw[HE.out,←HNN.out];exact⟨⟨_,_,_,_,rfl,HNz.out.lower (by omega)⟩,HLz.out⟩)
section
variable {ops:Array Oper} {o:Oper} {a:Act} {Kc:Act→World→Prop} {Q':Exit→Act→World→Prop}
theorem apps_FS {B:Nat} {W:World} (hw:Region.wanted o (yielded ops a.tmps)=true) (s x:Operand)
    (ho:o.op=.call { callee:=.builtin .append,args:=#[s,x],argTypes:=#[145,145] })
    (v:Value) (xs ys:List Flit) (A:Option Addr) (c:Nat) (hs:a.eval s=v) (hx:a.eval x=.slice A ys.length c)
    (HO:kF.R 153 W B (fun _=>True) v xs) (HR:kF.C W A ys.length ys) (hB:B≤W.heap.size) (hl:xs.length+ys.length≤100000000)
    (h:∀ v1 w1,kF.R 153 w1 B (fun _=>True) v1 (xs++ys)→W.grownBy w1 v.ownBlock→Anew W v1 v→Kc (a.put o.dst v1) w1) :
    if Region.wanted o (yielded ops a.tmps)=true then Oper.wp Tryz.prog o a W Kc Q' else Kc (a.put o.dst undef) W:=
  Kd.R_append_rows_step kF (w0:=W) B hw s x 145 153 (.agg #[.int .i64 0,.int .i64 0,.int .i64 0,.bool false,.bool false]) 32 ho Tryz.underlying145 info_F rfl (by decide) (by omega) v xs ys A ys.length c (fun _=>True) (fun _=>False) hs hx HO HR (fun _ _ h=>h) (fun _ hk=>hk.elim) (fun _ _=>trivial) (Below.refl _ _) hB (by omega) (fun v1 w1 h1 _ h3 h4=>h v1 w1 h1 h3 (.inr h4))
theorem apps_FSd {B:Nat} {W:World} (hw:Region.wanted o (yielded ops a.tmps)=true) (s x:Operand)
    (ho:o.op=.call { callee:=.builtin .append,args:=#[s,x],argTypes:=#[145,145] })
    (v:Value) (xs ys:List Flit) (A:Option Addr) (c:Nat) (hs:a.eval s=v) (hx:a.eval x=.slice A ys.length c)
    (HO:kF.R 153 W B (fun _=>True) v xs) (HR:kF.C W A ys.length ys) (hB:B≤W.heap.size) (hl:xs.length+ys.length≤100000000)
    (h:∀ v1 w1,kF.R 153 w1 B (fun _=>True) v1 (xs++ys)→W.grownBy w1 v.ownBlock→Anew W v1 v→Kc (a.put o.dst v1) w1) :
    if Region.wanted o (yielded ops a.tmps)=true then Oper.wp Tryz.prog o a W.drew Kc Q' else Kc (a.put o.dst undef) W.drew:=
  apps_FS (W:=W.drew) hw s x ho v xs ys A c hs hx (Kd.R_below HO (bw_drew (bw_refl W))) (Kd.C_below HR (bw_drew (bw_refl W))) hB hl (fun v1 w1 h1 h2 h3=>h v1 w1 h1 ⟨h2.os,h2.tape,h2.output,h2.size,h2.block⟩ h3)
end
def GotSndQ (lo bx:Nat) (w':World) (n:Net) (q:NA):Prop:=∃ u4 u7 u8,NX w' lo n q u4 u7 u8∧BT w' bx n q
def GotSnd (lo bx:Nat) (w':World) (n:Net):Prop:=∃ q' u4 u7 u8,NX w' lo n q' u4 u7 u8∧BT w' bx n q'
set_option maxHeartbeats 16000000 in
set_option maxRecDepth 100000 in
theorem impl_sendQ (n:Net) (p:Packet) (q:NA) (bx lo:Nat) (v4 v7 v8:List Value) (w:World) (hN:NX w lo n q v4 v7 v8) (hB:BT w bx n q) (nb:NB n) (ok:netOk n=true) (hlo:lo≤bx) (hlw:lo≤w.heap.size) :
  Calls Tryz.prog 56 #[.pointer (some ⟨bx,0,none⟩),.agg #[.int .i64 p.id,.int .i64 p.src,.int .i64 p.dst,.int .i64 p.cls,.int .i64 p.len]] w fun e w'=>e=.returned (.bool (sendOk n p))∧GotSndQ lo bx w' (sndN n p) q∧Below lo w w':=by
 have HN:=Lib.hid hN
 have HB:=Lib.hid hB
 obtain⟨l4,l5,l6,l7,l8⟩:=lens_ok ok
 have hsb:=srcs_len ok
 have HSL:=Lib.hid hsb.2
 have s16:=hsb.1
 obtain⟨a1,a2,a3,a4,a5,a6,a7,a8,c1,c2,c3,c4,c5,c6,c7,c8⟩:=q
 obtain⟨g7,e7,t7,s7⟩:=hN.form7 l7
 dsimp only at e7
 subst e7
 have sb:=hB.lt
 obtain⟨w1,e1⟩:∃ z,z=w.alloc (.cells #[.int .i64 p.id,.int .i64 p.src,.int .i64 p.dst,.int .i64 p.cls,.int .i64 p.len] 38):=⟨_,rfl⟩
 have XP:Hid (Box w1 w.heap.size #[.int .i64 p.id,.int .i64 p.src,.int .i64 p.dst,.int .i64 p.cls,.int .i64 p.len]):=Lib.hid (by rw[e1];exact Box.new w _ _ _ rfl)
 have Ba:Below w.heap.size w w1:=by rw[e1];exact bw_alloc _ (bw_refl w)
 have HN1:=Lib.hid (hN.below Ba)
 have HB1:=Lib.hid (hB.below Ba)
 have HW1:Hid (Below lo w w1):=Lib.hid (Below.cut Ba hlw)
 have z1:=bw_size Ba
 have x0:w1.cell? ⟨bx,0,none⟩=some (.int .i64 n.mesh.g.w):=HB1.out.box.get 0
 have x1:w1.cell? ⟨bx,1,none⟩=some (.int .i64 n.mesh.g.h):=HB1.out.box.get 1
 have xl:=HB1.out.lt
 have p0:w1.cell? ⟨w.heap.size,0,none⟩=some (.int .i64 p.id):=XP.out.get 0
 have p1:w1.cell? ⟨w.heap.size,1,none⟩=some (.int .i64 p.src):=XP.out.get 1
 have p2:w1.cell? ⟨w.heap.size,2,none⟩=some (.int .i64 p.dst):=XP.out.get 2
 have p3:w1.cell? ⟨w.heap.size,3,none⟩=some (.int .i64 p.cls):=XP.out.get 3
 have p4:w1.cell? ⟨w.heap.size,4,none⟩=some (.int .i64 p.len):=XP.out.get 4
 have pl:=XP.out.lt
 obtain⟨L,hL⟩:∃ L,flitsOf n.mesh.g p=L:=⟨_,rfl⟩
 have HCF:Hid (∀ W:World,Calls Tryz.prog 118 #[.agg #[.int .i64 n.mesh.g.w,.int .i64 n.mesh.g.h],.agg #[.int .i64 p.id,.int .i64 p.src,.int .i64 p.dst,.int .i64 p.cls,.int .i64 p.len]] W fun e w'=>GotF W w' L e∧Below W.heap.size W w'):=Lib.hid (fun W=>by rw[←hL];exact impl_FlitsOf n.mesh.g p W)
 have HL:=Lib.hid hL
 clear hN hB Ba hsb hL
 go_enter Tryz.func56,Tryz.ntmps56
 go_wp2_with fail
 rw[←e1]
 clear e1
 go_region_held3 (fun w'=>Below (w1).heap.size (w1) w'∧∀ bq oq,bq<(w1).heap.size→w'.cell? ⟨bq,oq,none⟩=(w1).cell? ⟨bq,oq,none⟩) (first|exact far_of bel) ( first|(go_at_call 118;refine(HCF.out _).mono ?_;rintro e wf ⟨hg1,Ba⟩;obtain⟨vf,rfl,HF0⟩:=hg1;obtain⟨Af,cf,rfl⟩:=Kd.R_slice HF0;have HFB:=Ba;obtain⟨Ca,Fa,Za⟩:=bcell Ba;(try simp only[szs] at Za);have Bb:=far2;obtain⟨Cb,Fb,Zb⟩:=bcell Bb;(try simp only[szs] at Zb);try (first|obtain⟨Ya,Yb,Yc,Yd⟩:=lts4 Zb|obtain⟨Ya,Yb,Yc⟩:=lts3 Zb|obtain⟨Ya,Yb⟩:=lts2 Zb|have Ya:=lts1 Zb);have hb9:=Ba))
 have hbf:Below w1.heap.size w1 wf:=by first|exact bw_then (bw_drew (bw_refl _)) Bb|exact Bb
 have HF:=Lib.hid (show kF.R 153 wf w1.heap.size (fun _=>True) (.slice Af L.length cf) L from HF0)
 repeat (first|clear Ca|clear Fa|clear Za|clear Ba|clear hb9|clear Cb|clear Fb|clear Zb|clear Bb|clear Ya|clear Yb|clear Yc|clear Yd)
 obtain⟨w2,rfl⟩:∃ z,z=wf:=⟨_,rfl⟩
 have HN2:=Lib.hid (HN1.out.below hbf)
 have HB2:=Lib.hid (HB1.out.below hbf)
 have XP2:=Lib.hid (XP.out.below hbf)
 have HW2:Hid (Below lo w w2):=Lib.hid (below_then HW1.out (by omega) hbf)
 have z2:=bw_size hbf
 have hpl:w.heap.size<w2.heap.size:=XP2.out.lt
 clear p0 p1 p2 p3 p4 pl x0 x1 xl HN1 HB1 XP HW1 HFB HF0 hbf
 cases hk:packetOk n.mesh.g p
 ·have hL0:L=[]:=by rw[←HL.out];exact flitsOf_no hk
  have HE:Hid (sendOk n p=false∧sndN n p=n):=Lib.hid (by
   have h1:sendOk n p=false:=by simp[sendOk,hk]
   exact⟨h1,by unfold sndN;rw[h1];rfl⟩)
  have hL1:L.length=0:=by rw[hL0];rfl
  clear hL0 hk
  go_wp2_with fail
  refine wp_region_far (w2) (by kernel_rfl) (by kernel_rfl) bel ?_
  have hqc:=far_cell (w2)
  have hqf:=far_frozen (w2)
  repeat (first|go_big_quiet_step (fail)|quiet_step (fail))
  refine wpQuiet_nil ?_
  intro wq hbq
  clear hqc hqf
  obtain⟨hcq,hfq,hzq⟩:=bcell hbq
  try simp only[szs] at hzq
  go_wp2
  go_ret
  exact⟨ret_bool HE.out.1.symm,by rw[HE.out.2];exact⟨v4,v7,v8,HN2.out.below hbq,HB2.out.below hbq⟩,below_then HW2.out (by omega) hbq⟩
 obtain⟨nd,_,_,_,n1,n5⟩:=packet_parts hk
 have nd1:=isNode_iff.1 nd
 have hlen:(L.length:Int)=p.len:=by rw[←HL.out];exact flitsOf_len hk
 obtain⟨k,hkk⟩:∃ k:Nat,p.src=(k:Int):=⟨p.src.toNat,by omega⟩
 have hks:k<n.srcs.length:=by have:=HSL.out;omega
 have HKS:=Lib.hid hks
 have hrow:=HN2.out.row7 k hks
 try dsimp only at hrow
 obtain⟨As,cs,hv⟩:=Kd.R_slice hrow
 rw[hv] at hrow
 obtain⟨R,hR⟩:∃ R,rl n.srcs (k:Int)=R:=⟨_,rfl⟩
 rw[hR] at hrow hv
 have hRl:R.length≤2097152:=by rw[←hR];exact nb.h10 _ (rl_mem hks)
 obtain⟨cl1,cl2⟩:=own_facts7 (x:=n) HN2.out rfl hks hv
 have y1:w2.cell? ⟨w.heap.size,1,none⟩=some (.int .i64 (k:Int)):=by rw[←hkk];exact XP2.out.get 1
 have y8:w2.cell? ⟨bx,8,none⟩=some (.slice (some ⟨g7,0,none⟩) n.srcs.length c7):=HB2.out.box.get 8
 have yx:=HB2.out.lt
 have i0:(0:Int)≤(k:Int):=by omega
 have i1:(k:Int)<(n.srcs.length:Int):=by omega
 have hLp:1≤L.length:=by omega
 have hL5:L.length≤5:=by omega
 have HV:=Lib.hid hv
 have HRE:=Lib.hid hR
 have HSO:Hid (sendOk n p=decide ((R.length:Int)+(L.length:Int)≤60)):=Lib.hid (by
  unfold sendOk
  rw[hk,hkk,hR,←hlen]
  rfl)
 have HKK:=Lib.hid hkk
 have f0:((L.length:Int) == 0)=false:=beq_eq_false_iff_ne.2 (by omega)
 have g7l:g7<w2.heap.size:=by omega
 clear hk hkk hv hR hks hlen nd nd1 n1 n5 nb
 by_cases h60:(R.length:Int)+(L.length:Int)≤60
 case neg=>
  have HE:Hid (sendOk n p=false∧sndN n p=n):=Lib.hid (by
   have h1:sendOk n p=false:=by rw[HSO.out];exact decide_eq_false h60
   exact⟨h1,by unfold sndN;rw[h1];rfl⟩)
  have h61:(60:Int)<(R.length:Int)+(L.length:Int):=by omega
  clear h60 HSO
  go_wp2_with fail
  refine wp_region_far (w2) (by kernel_rfl) (by kernel_rfl) bel ?_
  have hqc:=far_cell (w2)
  have hqf:=far_frozen (w2)
  repeat (first|go_big_quiet_step (fail)|quiet_step (fail))
  refine wpQuiet_nil ?_
  intro wq hbq
  clear hqc hqf
  obtain⟨hcq,hfq,hzq⟩:=bcell hbq
  try simp only[szs] at hzq
  go_wp2
  go_ret
  exact⟨ret_bool HE.out.1.symm,by rw[HE.out.2];exact⟨v4,v7,v8,HN2.out.below hbq,HB2.out.below hbq⟩,below_then HW2.out (by omega) hbq⟩
 case pos=>
  have h1:sendOk n p=true:=by rw[HSO.out];exact decide_eq_true h60
  have HE:Hid (sendOk n p=true):=Lib.hid h1
  have HE2:Hid (sndN n p={ n with srcs:=n.srcs.set k (R++L) }):=Lib.hid (by
   unfold sndN sendN
   rw[if_pos h1,HL.out,HKK.out,HRE.out,Int.toNat_natCast])
  clear h1 HSO
  go_wp2_with fail
  refine wp_region_far (w2) (by kernel_rfl) (by kernel_rfl) bel ?_
  have hqc:=far_cell (w2)
  have hqf:=far_frozen (w2)
  repeat (first|go_big_quiet_step (fail)|quiet_step (fail))
  refine wpQuiet_nil ?_
  intro wq hbq
  clear hqc hqf
  obtain⟨hcq,hfq,hzq⟩:=bcell hbq
  try simp only[szs] at hzq
  have HN3:=Lib.hid (HN2.out.below hbq)
  have HB3:=Lib.hid (HB2.out.below hbq)
  have HW3:Hid (Below lo w wq):=Lib.hid (below_then HW2.out (by omega) hbq)
  have HF3:=Lib.hid (Kd.R_below HF.out hbq)
  have HO3:=Lib.hid (Kd.R_below hrow hbq)
  have y1q:wq.cell? ⟨w.heap.size,1,none⟩=some (.int .i64 (k:Int)):=(hcq _ _ hpl).trans y1
  have y8q:wq.cell? ⟨bx,8,none⟩=some (.slice (some ⟨g7,0,none⟩) n.srcs.length c7):=(hcq _ _ yx).trans y8
  have zq:=bw_size hbq
  obtain⟨d1,d2⟩:=own_facts7 (x:=n) HN3.out rfl HKS.out HV.out
  have CL1:=Lib.hid d1
  have CL2:=Lib.hid d2
  clear hcq hfq hzq hbq y1 y8 HN2 HB2 HW2 HF hrow cl1 cl2 XP2
  obtain⟨wz,rfl⟩:∃ z,z=wq:=⟨_,rfl⟩
  have yxz:=HB3.out.lt
  have hplz:w.heap.size<wz.heap.size:=by omega
  have HBO:Hid (BlkT wz g7 145):=Lib.hid (own_typed HN3.out.srcs g7 rfl)
  obtain⟨rb,hrb⟩:∃ rb,(Value.slice As R.length cs).ownBlock=rb:=⟨_,rfl⟩
  have nb1:¬ some bx=rb:=fun e=>by obtain⟨inner,hin⟩:=Kd.R_own HO3.out;exact own_ne hin HB3.out (by decide) (e.trans hrb.symm)
  have nb3:¬ some g7=rb:=fun e=>by
   obtain⟨inner,hin⟩:=Kd.R_own HO3.out
   obtain⟨cc,hc⟩:=HBO.out
   exact own_ne hin hc (by decide) (e.trans hrb.symm)
  have nbp:¬ some w.heap.size=rb:=fun e=>by
   have h7:=HN.out.row7 k HKS.out
   try dsimp only at h7
   rw[HV.out] at h7
   have:=Kd.R_lt h7 w.heap.size (by rw[hrb];exact e.symm)
   omega
  have nbo:¬ bx=g7:=by
   obtain⟨cc,hc⟩:=HBO.out
   exact blk_ne HB3.out hc (by decide)
  have npo:¬ w.heap.size=g7:=by omega
  have HRB1:=Lib.hid hrb
  have g7z:g7<wz.heap.size:=by omega
  have lwz:lo≤wz.heap.size:=by omega
  clear hrb
  go_wp2_with fail
  refine wp_region_tx (fun W=>wz.heap.size≤W.heap.size∧W.cell? ⟨bx,8,none⟩=some (.slice (some ⟨g7,0,none⟩) n.srcs.length c7)∧W.cell? ⟨w.heap.size,1,none⟩=some (.int .i64 (k:Int))∧W.cell? ⟨g7,k,none⟩=some (.slice As R.length cs)∧W.frozen? ⟨g7,k,none⟩=false) (fun i=>[.pointer (some ⟨bx,0,none⟩),.pointer (some ⟨bx,0,none⟩),.pointer (some ⟨bx,8,none⟩),.slice (some ⟨g7,0,none⟩) n.srcs.length c7,.pointer (some ⟨w.heap.size,1,none⟩),.int .i64 (k:Int),.pointer (some ⟨bx,0,none⟩),.pointer (some ⟨bx,0,none⟩),.pointer (some ⟨bx,8,none⟩),.slice (some ⟨g7,0,none⟩) n.srcs.length c7,.pointer (some ⟨w.heap.size,1,none⟩),.int .i64 (k:Int),.pointer (some ⟨g7,k,none⟩),.slice As R.length cs,.slice Af L.length cf,undef,.pointer (some ⟨g7,k,none⟩)].getD i undef) 17 [(0,.quiet),(1,.quiet),(2,.quiet),(3,.quiet),(4,.quiet),(5,.quiet),(6,.quiet),(7,.quiet),(8,.quiet),(9,.quiet),(10,.quiet),(11,.quiet),(12,.quiet),(13,.quiet),(14,.quiet),(15,.chain),(16,.quiet)] (by kernel_rfl) (by kernel_rfl) (by kernel_rfl) (by kernel_rfl) (by kernel_rfl) (by kernel_rfl) (by kernel_rfl) (by kernel_rfl) (⟨Nat.le_refl _,y8q,y1q,CL1.out,CL2.out⟩) (fun W=>W=wz.drew) (rfl) ?_
  refine wpTx_q (some 31) rfl rfl (by rfl) (fun W hC=>?_) ?_
  ·obtain⟨_,x1,x2,x3,x4⟩:=hC
   go_simp
   try rfl
  try simp only[Act.put,nms]
  refine wpTx_q (some 32) rfl rfl (by rfl) (fun W hC=>?_) ?_
  ·obtain⟨_,x1,x2,x3,x4⟩:=hC
   go_simp
   try rfl
  try simp only[Act.put,nms]
  refine wpTx_q (some 33) rfl rfl (by rfl) (fun W hC=>?_) ?_
  ·obtain⟨_,x1,x2,x3,x4⟩:=hC
   go_simp
   try rfl
  try simp only[Act.put,nms]
  refine wpTx_q (some 34) rfl rfl (by rfl) (fun W hC=>?_) ?_
  ·obtain⟨_,x1,x2,x3,x4⟩:=hC
   go_simp
   try rfl
  try simp only[Act.put,nms]
  refine wpTx_q (some 35) rfl rfl (by rfl) (fun W hC=>?_) ?_
  ·obtain⟨_,x1,x2,x3,x4⟩:=hC
   go_simp
   try rfl
  try simp only[Act.put,nms]
  refine wpTx_q (some 36) rfl rfl (by rfl) (fun W hC=>?_) ?_
  ·obtain⟨_,x1,x2,x3,x4⟩:=hC
   go_simp
   try rfl
  try simp only[Act.put,nms]
  refine wpTx_q (some 37) rfl rfl (by rfl) (fun W hC=>?_) ?_
  ·obtain⟨_,x1,x2,x3,x4⟩:=hC
   go_simp
   try rfl
  try simp only[Act.put,nms]
  refine wpTx_q (some 38) rfl rfl (by rfl) (fun W hC=>?_) ?_
  ·obtain⟨_,x1,x2,x3,x4⟩:=hC
   go_simp
   try rfl
  try simp only[Act.put,nms]
  refine wpTx_q (some 39) rfl rfl (by rfl) (fun W hC=>?_) ?_
  ·obtain⟨_,x1,x2,x3,x4⟩:=hC
   go_simp
   try rfl
  try simp only[Act.put,nms]
  refine wpTx_q (some 40) rfl rfl (by rfl) (fun W hC=>?_) ?_
  ·obtain⟨_,x1,x2,x3,x4⟩:=hC
   go_simp
   try rfl
  try simp only[Act.put,nms]
  refine wpTx_q (some 41) rfl rfl (by rfl) (fun W hC=>?_) ?_
  ·obtain⟨_,x1,x2,x3,x4⟩:=hC
   go_simp
   try rfl
  try simp only[Act.put,nms]
  refine wpTx_q (some 42) rfl rfl (by rfl) (fun W hC=>?_) ?_
  ·obtain⟨_,x1,x2,x3,x4⟩:=hC
   go_simp
   try rfl
  try simp only[Act.put,nms]
  refine wpTx_q (some 43) rfl rfl (by rfl) (fun W hC=>?_) ?_
  ·obtain⟨_,x1,x2,x3,x4⟩:=hC
   go_simp
   try rfl
  try simp only[Act.put,nms]
  refine wpTx_q (some 44) rfl rfl (by rfl) (fun W hC=>?_) ?_
  ·obtain⟨_,x1,x2,x3,x4⟩:=hC
   go_simp
   try rfl
  try simp only[Act.put,nms]
  refine wpTx_q (some 45) rfl rfl (by rfl) (fun W hC=>?_) ?_
  ·obtain⟨_,x1,x2,x3,x4⟩:=hC
   go_simp
   try rfl
  try simp only[Act.put,nms]
  refine wpTx_c (some 46) rfl rfl (by rfl) ((none,0):Option Addr × Nat) (fun y=>.slice y.1 (R.length+L.length) y.2) (fun y W9=>kF.R 153 W9 lo (fun _=>True) (.slice y.1 (R++L).length y.2) (R++L)∧wz.grownBy W9 (Value.slice As R.length cs).ownBlock∧Anew wz (.slice y.1 (R++L).length y.2) (.slice As R.length cs)) (fun W hF hC=>?_) (fun y=>?_)
  ·subst hF
   refine LoOp.of_if (ops:=#[]) rfl rfl (by simp) (by rfl) (apps_FSd (ops:=#[]) (W:=wz) (B:=lo) (by rfl) (.tmp 44) (.tmp 45) rfl (.slice As R.length cs) R L Af cf rfl rfl HO3.out (Kd.R_rowX HF3.out).2.2 lwz (by omega) ?_)
   intro v9 w9 H9 hg9 ha9
   obtain⟨A9,d9,rfl⟩:=Kd.R_slice H9
   have hg9r:=hg9
   rw[HRB1.out] at hg9r
   refine⟨(A9,d9),?_,⟨hg9r.size,(World.cell?_of_block (a:=⟨bx,8,none⟩) (hg9r.block bx yxz nb1)).trans y8q,(World.cell?_of_block (a:=⟨w.heap.size,1,none⟩) (hg9r.block w.heap.size hplz nbp)).trans y1q,(World.cell?_of_block (a:=⟨g7,k,none⟩) (hg9r.block g7 g7z nb3)).trans CL1.out,(World.frozen?_of_block (a:=⟨g7,k,none⟩) (hg9r.block g7 g7z nb3)).trans CL2.out⟩,H9,hg9,ha9⟩
   show Value.slice A9 (R++L).length d9=.slice A9 (R.length+L.length) d9
   rw[List.length_append]
  try simp only[Act.put,nms]
  refine wpTx_q (some 47) rfl rfl (by rfl) (fun W hC=>?_) ?_
  ·obtain⟨_,x1,x2,x3,x4⟩:=hC
   go_simp
   try rfl
  try simp only[Act.put,nms]
  refine wpTx_z (fun w9 hF hC=>?_)
  obtain⟨A9,d9⟩:=y
  obtain⟨H9,hg9,ha9⟩:=hF
  obtain⟨_,x1,x2,x3,x4⟩:=hC
  dsimp only at H9
  refine⟨_,rfl,by rfl,?_⟩
  go_simp
  all_goals
   have hl9:(R++L).length=R.length+L.length:=by simp
   have hN9:NX (w9.setCell ⟨g7,k,none⟩ (.slice A9 (R.length+L.length) d9)) lo { n with srcs:=n.srcs.set k (R++L) } ⟨a1,a2,a3,a4,a5,a6,some ⟨g7,0,none⟩,a8,c1,c2,c3,c4,c5,c6,c7,c8⟩ v4 (v7.set k (.slice A9 (R.length+L.length) d9)) v8:=by
    have hh:=HN3.out.setSrc (g:=g7) (k:=k) (u:=.slice A9 (R++L).length d9) (y:=R++L) rfl HKS.out (by rw[show vr v7 k=.slice As R.length cs from HV.out];exact hg9) H9 (by rw[show vr v7 k=.slice As R.length cs from HV.out];exact ha9)
    rw[hl9] at hh
    exact hh
   have hB9:BT (w9.setCell ⟨g7,k,none⟩ (.slice A9 (R.length+L.length) d9)) bx n ⟨a1,a2,a3,a4,a5,a6,some ⟨g7,0,none⟩,a8,c1,c2,c3,c4,c5,c6,c7,c8⟩:=(HB3.out.grown hg9 HO3.out).far (HBO.out.grown hg9 HO3.out) (by decide) _ _
   have hW9:Below lo w (w9.setCell ⟨g7,k,none⟩ (.slice A9 (R.length+L.length) d9)):=below_setc (Below.grownRow HW3.out hg9 lwz (fun j hj=>Kd.R_base HO3.out j hj)) t7 _ _
   go_wp2
   go_ret
   refine⟨ret_bool HE.out.symm,?_,?_⟩
   ·rw[HE2.out]
    first
     | exact⟨v4,v7.set k (.slice A9 (R.length+L.length) d9),v8,hN9,hB9.eq (by simp[netCells])⟩
     | exact⟨v4,v7.set k (.slice A9 (R.length+L.length) d9),v8,hN9.below (bw_drew (bw_refl _)),(hB9.below (bw_drew (bw_refl _))).eq (by simp[netCells])⟩
   ·first|exact hW9|exact below_then hW9 (by have:=hW9.size;omega) (bw_drew (bw_refl _))
theorem impl_send (n:Net) (p:Packet) (q:NA) (bx lo:Nat) (v4 v7 v8:List Value) (w:World) (hN:NX w lo n q v4 v7 v8) (hB:BT w bx n q) (nb:NB n) (ok:netOk n=true) (hlo:lo≤bx) (hlw:lo≤w.heap.size) :
    Calls Tryz.prog 56 #[.pointer (some ⟨bx,0,none⟩),.agg #[.int .i64 p.id,.int .i64 p.src,.int .i64 p.dst,.int .i64 p.cls,.int .i64 p.len]] w fun e w'=>e=.returned (.bool (sendOk n p))∧GotSnd lo bx w' (sndN n p)∧Below lo w w':=
  (impl_sendQ n p q bx lo v4 v7 v8 w hN hB nb ok hlo hlw).mono (fun e w' h=>⟨h.1,let ⟨u4,u7,u8,h1,h2⟩:=h.2.1;⟨q,u4,u7,u8,h1,h2⟩,h.2.2⟩)
end Go.Proofs.YtodbglncccgdbaaGreat
