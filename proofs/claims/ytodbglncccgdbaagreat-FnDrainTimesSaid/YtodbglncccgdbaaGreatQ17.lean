/- Lemmas for laws of this seat, for all inputs: RunS SndS SndT SndJ. -/
import Derived.Test.YtodbglncccgdbaaGreatQ13
import Derived.Test.YtodbglncccgdbaaGreatQ15
import Derived.Test.YtodbglncccgdbaaGreatQ16
import Derived.Test.YtodbglncccgdbaaGreatQ9
import Derived.Test.YtodbglncccgdbaaGreatQ4
import Derived.Test.YtodbglncccgdbaaGreatQ3
set_option linter.unusedVariables false
set_option linter.unusedSimpArgs false
namespace Go.Proofs.YtodbglncccgdbaaGreat
open Go.RowKit Go.Proofs.YtodbglncccgdbaaGreatW.PrintWords
open NoC
def GotNL (lo:Nat) (w':World) (n:Net) (e:Ending):Prop:=∃ q v4 v7 v8,e=.returned (.agg (netCells n q))∧NX w' lo n q v4 v7 v8
theorem putN_other {w:World} {b c:Nat} {n:Net} {q:NA} (h:BN w c) (hne:c≠b):BN (putN w b n q) c:=by
  unfold putN
  exact BN.off (BN.off (BN.off (BN.off (BN.off (BN.off (BN.off (BN.off (BN.off (BN.off (BN.off h hne 0 _) hne 1 _) hne 2 _) hne 3 _) hne 4 _) hne 5 _) hne 6 _) hne 7 _) hne 8 _) hne 9 _) hne 10 _
theorem run_idle_at {n:Net} {k S:Nat} (hk:k≤S) (h:idleN (runN n k)=true):runN n S={ runN n k with time:=(runN n k).time+(S:Int) - (k:Int) }:=by
  have e:S=k+(S - k):=by omega
  rw[e,runN_add,idle_run h]
  congr 1
  omega
set_option maxHeartbeats 8000000 in
set_option maxRecDepth 100000 in
theorem spec_l20Run (n:Net) (S:Nat) (q:NA) (v4 v7 v8:List Value) (lo:Nat) (w:World) (hN:NX w lo n q v4 v7 v8) (nb:NB n) (hA:∀ x∈n.arrs,x.length≤1048576) (ok:netOk n=true) (hS:S≤400) (ht:n.time+S≤1000000) (hlo:lo≤w.heap.size) :
  Calls Tryz.prog 138 #[.agg (netCells n q),.int .i64 S] w fun e w'=>GotNL lo w' (runN n S) e∧Below w.heap.size w w':=by
 have HN:=Lib.hid hN
 have HA:=Lib.hid hA
 have NBQ:=Lib.hid nb
 clear hN hA nb
 obtain⟨a1,a2,a3,a4,a5,a6,a7,a8,c1,c2,c3,c4,c5,c6,c7,c8⟩:=q
 dsimp only [netCells]
 have ti:=time_ok ok
 have HOK:Hid (∀ k:Nat,k≤S→netOk (runN n k)=true):=Lib.hid (fun k hk=>runN_ok ok k (by omega))
 clear ok
 have HB0:Hid (BT ((w.alloc (.cells #[.int .i64 n.mesh.g.w,.int .i64 n.mesh.g.h,.slice a1 n.mesh.br.length c1,.slice a2 n.pa.length c2,.slice a3 n.pb.length c3,.slice a4 n.bufs.length c4,.slice a5 n.owners.length c5,.slice a6 n.turns.length c6,.slice a7 n.srcs.length c7,.slice a8 n.arrs.length c8,.int .i64 n.time] 42)).alloc (.cells #[.int .i64 0,.int .i64 0,.slice none 0 0,.slice none 0 0,.slice none 0 0,.slice none 0 0,.slice none 0 0,.slice none 0 0,.slice none 0 0,.slice none 0 0,.int .i64 0] 42)) w.heap.size n ⟨a1,a2,a3,a4,a5,a6,a7,a8,c1,c2,c3,c4,c5,c6,c7,c8⟩):=Lib.hid ((BT.new w n ⟨a1,a2,a3,a4,a5,a6,a7,a8,c1,c2,c3,c4,c5,c6,c7,c8⟩).below (bw_alloc _ (bw_refl _)))
 have HZ0:Hid (BN ((w.alloc (.cells #[.int .i64 n.mesh.g.w,.int .i64 n.mesh.g.h,.slice a1 n.mesh.br.length c1,.slice a2 n.pa.length c2,.slice a3 n.pb.length c3,.slice a4 n.bufs.length c4,.slice a5 n.owners.length c5,.slice a6 n.turns.length c6,.slice a7 n.srcs.length c7,.slice a8 n.arrs.length c8,.int .i64 n.time] 42)).alloc (.cells #[.int .i64 0,.int .i64 0,.slice none 0 0,.slice none 0 0,.slice none 0 0,.slice none 0 0,.slice none 0 0,.slice none 0 0,.slice none 0 0,.slice none 0 0,.int .i64 0] 42)) (w.heap.size+1)):=Lib.hid ((BT.bn (by have hn:=BT.new (w.alloc (.cells #[.int .i64 n.mesh.g.w,.int .i64 n.mesh.g.h,.slice a1 n.mesh.br.length c1,.slice a2 n.pa.length c2,.slice a3 n.pb.length c3,.slice a4 n.bufs.length c4,.slice a5 n.owners.length c5,.slice a6 n.turns.length c6,.slice a7 n.srcs.length c7,.slice a8 n.arrs.length c8,.int .i64 n.time] 42)) ⟨⟨⟨0,0⟩,[]⟩,[],[],[],[],[],[],[],0⟩ ⟨none,none,none,none,none,none,none,none,0,0,0,0,0,0,0,0⟩;rw[World.size_alloc] at hn;exact hn)))
 have HW0:Hid (Below w.heap.size w ((w.alloc (.cells #[.int .i64 n.mesh.g.w,.int .i64 n.mesh.g.h,.slice a1 n.mesh.br.length c1,.slice a2 n.pa.length c2,.slice a3 n.pb.length c3,.slice a4 n.bufs.length c4,.slice a5 n.owners.length c5,.slice a6 n.turns.length c6,.slice a7 n.srcs.length c7,.slice a8 n.arrs.length c8,.int .i64 n.time] 42)).alloc (.cells #[.int .i64 0,.int .i64 0,.slice none 0 0,.slice none 0 0,.slice none 0 0,.slice none 0 0,.slice none 0 0,.slice none 0 0,.slice none 0 0,.slice none 0 0,.int .i64 0] 42))):=Lib.hid (bw_alloc _ (bw_alloc _ (bw_refl w)))
 go_enter Tryz.func138,Tryz.ntmps138
 go_wp2_with fail
 go_loopw [5] (fun i wr=>∃ (k:Nat) (q':NA) (u4 u7 u8:List Value),i=.int .i64 k∧k≤S∧Hid (NX wr lo (runN n k) q' u4 u7 u8)∧Hid (BT wr w.heap.size (runN n k) q')∧Hid (BN wr (w.heap.size+1))∧Hid (Below w.heap.size w wr)) (fun i _=>S - (intOf i).toNat)
 case atStart=>exact⟨0,⟨a1,a2,a3,a4,a5,a6,a7,a8,c1,c2,c3,c4,c5,c6,c7,c8⟩,v4,v7,v8,rfl,Nat.zero_le _,Lib.hid (HN.out.below HW0.out),Lib.hid HB0.out,Lib.hid HZ0.out,Lib.hid HW0.out⟩
 case round=>
  clear HB0 HZ0 HW0
  obtain⟨k,q',u4,u7,u8,rfl,hk,HNk,HBk,HZk,HWk⟩:=hrel
  obtain⟨wk,ewk⟩:∃ z,z=wr:=⟨_,rfl⟩
  subst ewk
  obtain⟨p1,p2,p3,p4,p5,p6,p7,p8,r1,r2,r3,r4,r5,r6,r7,r8⟩:=q'
  obtain⟨X,hX⟩:∃ X,runN n k=X:=⟨_,rfl⟩
  have OKX:Hid (netOk X=true):=Lib.hid (by rw[←hX];exact HOK.out k hk)
  have NBX:Hid (NB X):=Lib.hid (by rw[←hX];exact run_nb NBQ.out HA.out k (by omega) (HOK.out k hk))
  have HIX:Hid (idleN X=true→runN n S={ X with time:=X.time+(S:Int) - (k:Int) }):=Lib.hid (fun h=>by rw[←hX] at h ⊢;exact run_idle_at hk h)
  have HSX:Hid (runN n (k+1)=stepN X):=Lib.hid (by rw[←hX];rfl)
  have HSE:Hid (k=S→runN n S=X):=Lib.hid (fun e=>by rw[←e];exact hX)
  have tX0:=(time_ok OKX.out).1
  have tX1:=(time_ok OKX.out).2
  rw[hX] at HNk HBk
  clear hX
  have HRX:=Lib.hid (HNk.out.reads NBX.out)
  have zl:=HBk.out.lt
  have zw:=bw_size HWk.out
  have box11:Box wk w.heap.size #[.int .i64 X.mesh.g.w,.int .i64 X.mesh.g.h,.slice p1 X.mesh.br.length r1,.slice p2 X.pa.length r2,.slice p3 X.pb.length r3,.slice p4 X.bufs.length r4,.slice p5 X.owners.length r5,.slice p6 X.turns.length r6,.slice p7 X.srcs.length r7,.slice p8 X.arrs.length r8,.int .i64 X.time]:=HBk.out.box
  obtain⟨z0,z1,z2,z3,z4,z5,z6,z7,z8,z9,z10⟩:=all11 box11
  clear box11
  by_cases hlt:k<S
  ·cases hi:idleN X
   ·go_wp2_with fail
    refine(spec_l20Idle X ⟨p1,p2,p3,p4,p5,p6,p7,p8,r1,r2,r3,r4,r5,r6,r7,r8⟩ _ HRX.out).mono ?_
    rintro e w5 ⟨he,hb5⟩
    rw[hi] at he
    subst he
    have HN5:=Lib.hid (HNk.out.below hb5)
    have HB5:=Lib.hid (HBk.out.below hb5)
    have HZ5:=Lib.hid (HZk.out.below hb5)
    have HW5:Hid (Below w.heap.size w w5):=Lib.hid (bw_then HWk.out hb5)
    repeat (first|clear z0|clear z1|clear z2|clear z3|clear z4|clear z5|clear z6|clear z7|clear z8|clear z9|clear z10)
    clear HNk HBk HZk HRX hb5 hi zl
    have box11:Box w5 w.heap.size #[.int .i64 X.mesh.g.w,.int .i64 X.mesh.g.h,.slice p1 X.mesh.br.length r1,.slice p2 X.pa.length r2,.slice p3 X.pb.length r3,.slice p4 X.bufs.length r4,.slice p5 X.owners.length r5,.slice p6 X.turns.length r6,.slice p7 X.srcs.length r7,.slice p8 X.arrs.length r8,.int .i64 X.time]:=HB5.out.box
    obtain⟨z0,z1,z2,z3,z4,z5,z6,z7,z8,z9,z10⟩:=all11 box11
    clear box11
    have zl:=HB5.out.lt
    go_wp2_with fail
    refine(spec_l19Step X ⟨p1,p2,p3,p4,p5,p6,p7,p8,r1,r2,r3,r4,r5,r6,r7,r8⟩ _ (HN5.out.reads NBX.out) OKX.out).mono ?_
    rintro e w4 ⟨hg4,hb4⟩
    obtain⟨q4,y4,y7,y8,rfl,HN0⟩:=hg4
    obtain⟨s1,s2,s3,s4,s5,s6,s7,s8,t1,t2,t3,t4,t5,t6,t7,t8⟩:=q4
    dsimp only [netCells]
    have zw5:=bw_size HW5.out
    have HN4:=Lib.hid (HN0.lower (show lo≤w5.heap.size by omega))
    have HB4:Hid (BN w4 w.heap.size):=Lib.hid ((HB5.out.below hb4).bn)
    have HZ4:Hid (BN w4 (w.heap.size+1)):=Lib.hid (HZ5.out.below hb4)
    have HW4:Hid (Below w.heap.size w w4):=Lib.hid (bw_then HW5.out hb4)
    clear HN0 hb4
    repeat (first|clear z0|clear z1|clear z2|clear z3|clear z4|clear z5|clear z6|clear z7|clear z8|clear z9|clear z10)
    obtain⟨⟨ry0,rv0⟩,⟨ry1,rv1⟩,⟨ry2,rv2⟩,⟨ry3,rv3⟩,⟨ry4,rv4⟩,⟨ry5,rv5⟩,⟨ry6,rv6⟩,⟨ry7,rv7⟩,⟨ry8,rv8⟩,⟨ry9,rv9⟩,⟨ry10,rv10⟩,rz0,rz1,rz2,rz3,rz4,rz5,rz6,rz7,rz8,rz9,rz10⟩:=allBN HB4.out
    obtain⟨Y,hY⟩:∃ Y,stepN X=Y:=⟨_,rfl⟩
    rw[hY] at HN4 HSX
    try rw[hY]
    clear hY
    have nz:¬ w.heap.size+1=w.heap.size:=by omega
    go_wp2
    obtain⟨W9,e9⟩:∃ z,z=putN w4 w.heap.size Y ⟨s1,s2,s3,s4,s5,s6,s7,s8,t1,t2,t3,t4,t5,t6,t7,t8⟩:=⟨_,rfl⟩
    have HB9:Hid (BT W9 w.heap.size Y ⟨s1,s2,s3,s4,s5,s6,s7,s8,t1,t2,t3,t4,t5,t6,t7,t8⟩):=Lib.hid (by rw[e9];exact putN_BT HB4.out)
    have HN9:=Lib.hid (show NX W9 lo Y ⟨s1,s2,s3,s4,s5,s6,s7,s8,t1,t2,t3,t4,t5,t6,t7,t8⟩ y4 y7 y8 from by rw[e9];exact HN4.out.put HB4.out)
    have HL9:Hid (Below w.heap.size w W9):=Lib.hid (by rw[e9];exact below_put HW4.out (Nat.le_refl _))
    have HZ9:Hid (BN W9 (w.heap.size+1)):=Lib.hid (by rw[e9];exact putN_other HZ4.out nz)
    unfold putN at e9
    try dsimp only at e9
    rw[←e9]
    clear e9
    go_roundw
    case rel=>exact⟨k+1,⟨s1,s2,s3,s4,s5,s6,s7,s8,t1,t2,t3,t4,t5,t6,t7,t8⟩,y4,y7,y8,by go_num,by omega,Lib.hid (by rw[HSX.out];exact HN9.out),Lib.hid (by rw[HSX.out];exact HB9.out),Lib.hid HZ9.out,Lib.hid HL9.out⟩
    case measure=>simp[intOf];omega
   ·have HE:=Lib.hid (HIX.out hi)
    go_wp2_with fail
    refine(spec_l20Idle X ⟨p1,p2,p3,p4,p5,p6,p7,p8,r1,r2,r3,r4,r5,r6,r7,r8⟩ _ HRX.out).mono ?_
    rintro e w5 ⟨he,hb5⟩
    rw[hi] at he
    subst he
    have HN5:=Lib.hid (HNk.out.below hb5)
    have HB5:=Lib.hid (HBk.out.below hb5)
    have HZ5:=Lib.hid (HZk.out.below hb5)
    have HW5:Hid (Below w.heap.size w w5):=Lib.hid (bw_then HWk.out hb5)
    repeat (first|clear z0|clear z1|clear z2|clear z3|clear z4|clear z5|clear z6|clear z7|clear z8|clear z9|clear z10)
    clear HNk HBk HZk HRX hb5 hi zl
    have box11:Box w5 w.heap.size #[.int .i64 X.mesh.g.w,.int .i64 X.mesh.g.h,.slice p1 X.mesh.br.length r1,.slice p2 X.pa.length r2,.slice p3 X.pb.length r3,.slice p4 X.bufs.length r4,.slice p5 X.owners.length r5,.slice p6 X.turns.length r6,.slice p7 X.srcs.length r7,.slice p8 X.arrs.length r8,.int .i64 X.time]:=HB5.out.box
    obtain⟨z0,z1,z2,z3,z4,z5,z6,z7,z8,z9,z10⟩:=all11 box11
    clear box11
    have zl:=HB5.out.lt
    have f10:=HB5.out.frozen 10
    obtain⟨⟨ry0,rv0⟩,⟨ry1,rv1⟩,⟨ry2,rv2⟩,⟨ry3,rv3⟩,⟨ry4,rv4⟩,⟨ry5,rv5⟩,⟨ry6,rv6⟩,⟨ry7,rv7⟩,⟨ry8,rv8⟩,⟨ry9,rv9⟩,⟨ry10,rv10⟩,rz0,rz1,rz2,rz3,rz4,rz5,rz6,rz7,rz8,rz9,rz10⟩:=allBN HZ5.out
    have nz:¬ w.heap.size+1=w.heap.size:=by omega
    have nz':¬ w.heap.size=w.heap.size+1:=by omega
    go_wp2
    obtain⟨W8,e8⟩:∃ z,z=w5.setCell ⟨w.heap.size,10,none⟩ (.int .i64 (X.time+(S:Int) - (k:Int))):=⟨_,rfl⟩
    rw[←e8]
    have HN8:Hid (NX W8 lo { X with time:=X.time+(S:Int) - (k:Int) } ⟨p1,p2,p3,p4,p5,p6,p7,p8,r1,r2,r3,r4,r5,r6,r7,r8⟩ u4 u7 u8):=Lib.hid (by rw[e8];exact(HN5.out.typed HB5.out.blk (by decide) (by decide) (by decide) 10 _).time _)
    have HZ8:Hid (BN W8 (w.heap.size+1)):=Lib.hid (by rw[e8];exact HZ5.out.off nz 10 _)
    have HL8:Hid (Below w.heap.size w W8):=Lib.hid (by rw[e8];exact below_setc HW5.out (Nat.le_refl _) 10 _)
    obtain⟨W9,e9⟩:∃ z,z=putN W8 (w.heap.size+1) { X with time:=X.time+(S:Int) - (k:Int) } ⟨p1,p2,p3,p4,p5,p6,p7,p8,r1,r2,r3,r4,r5,r6,r7,r8⟩:=⟨_,rfl⟩
    have HB9:Hid (BT W9 (w.heap.size+1) { X with time:=X.time+(S:Int) - (k:Int) } ⟨p1,p2,p3,p4,p5,p6,p7,p8,r1,r2,r3,r4,r5,r6,r7,r8⟩):=Lib.hid (by rw[e9];exact putN_BT HZ8.out)
    have HN9:Hid (NX W9 lo { X with time:=X.time+(S:Int) - (k:Int) } ⟨p1,p2,p3,p4,p5,p6,p7,p8,r1,r2,r3,r4,r5,r6,r7,r8⟩ u4 u7 u8):=Lib.hid (by rw[e9];exact HN8.out.put HZ8.out)
    have HL9:Hid (Below w.heap.size w W9):=Lib.hid (by rw[e9];exact below_put HL8.out (by omega))
    unfold putN at e9
    try dsimp only at e9
    rw[←e9]
    clear e9 e8
    exact bodyPost_ret (results_cell_row Tryz.results138 _ _ (w.heap.size+1) 42 _ (0,0) _ rfl HB9.out Tryz.underlying42 rfl (by kernel_rfl)) rfl (by rw[HE.out];exact⟨⟨_,_,_,_,rfl,HN9.out⟩,HL9.out⟩)
  ·obtain rfl:k=S:=by omega
   have HE:=Lib.hid (HSE.out rfl)
   obtain⟨⟨ry0,rv0⟩,⟨ry1,rv1⟩,⟨ry2,rv2⟩,⟨ry3,rv3⟩,⟨ry4,rv4⟩,⟨ry5,rv5⟩,⟨ry6,rv6⟩,⟨ry7,rv7⟩,⟨ry8,rv8⟩,⟨ry9,rv9⟩,⟨ry10,rv10⟩,rz0,rz1,rz2,rz3,rz4,rz5,rz6,rz7,rz8,rz9,rz10⟩:=allBN HZk.out
   go_wp2
   obtain⟨W9,e9⟩:∃ z,z=putN wk (w.heap.size+1) X ⟨p1,p2,p3,p4,p5,p6,p7,p8,r1,r2,r3,r4,r5,r6,r7,r8⟩:=⟨_,rfl⟩
   have HB9:Hid (BT W9 (w.heap.size+1) X ⟨p1,p2,p3,p4,p5,p6,p7,p8,r1,r2,r3,r4,r5,r6,r7,r8⟩):=Lib.hid (by rw[e9];exact putN_BT HZk.out)
   have HN9:Hid (NX W9 lo X ⟨p1,p2,p3,p4,p5,p6,p7,p8,r1,r2,r3,r4,r5,r6,r7,r8⟩ u4 u7 u8):=Lib.hid (by rw[e9];exact HNk.out.put HZk.out)
   have HL9:Hid (Below w.heap.size w W9):=Lib.hid (by rw[e9];exact below_put HWk.out (by omega))
   unfold putN at e9
   try dsimp only at e9
   rw[←e9]
   clear e9
   exact bodyPost_ret (results_cell_row Tryz.results138 _ _ (w.heap.size+1) 42 _ (0,0) _ rfl HB9.out Tryz.underlying42 rfl (by kernel_rfl)) rfl (by rw[HE.out];exact⟨⟨_,_,_,_,rfl,HN9.out⟩,HL9.out⟩)
set_option maxHeartbeats 16000000 in
set_option maxRecDepth 100000 in
theorem spec_l16Send (n:Net) (p:Packet) (q:NA) (w:World) (hr:NetR 153 w n q) (ok:netOk n=true) (hs:sendOk n p=true) :
  Calls Tryz.prog 137 #[.agg (netCells n q),.agg #[.int .i64 p.id,.int .i64 p.src,.int .i64 p.dst,.int .i64 p.cls,.int .i64 p.len]] w fun e w'=>GotNX w w' (sendN n p) e∧Below w.heap.size w w':=by
 have HR:=Lib.hid hr
 have NBQ:=Lib.hid hr.nb
 obtain⟨l4,l5,l6,l7,l8⟩:=lens_ok ok
 have hsb:=srcs_len ok
 have HSL:=Lib.hid hsb.2
 have hk:packetOk n.mesh.g p=true:=by
  simp only[sendOk,Bool.and_eq_true] at hs
  exact hs.1
 obtain⟨a1,a2,a3,a4,a5,a6,a7,a8,c1,c2,c3,c4,c5,c6,c7,c8⟩:=q
 clear hr
 dsimp only [netCells]

 go_enter Tryz.func137,Tryz.ntmps137
 go_wp2_with fail
 refine(spec_l15Copy n _ _ (HR.out.below bel)).mono ?_
 rintro e w1 ⟨hg1,HBC⟩
 obtain⟨qq,v4,v7,v8,rfl,HN0⟩:=hg1
 obtain⟨b1,b2,b3,b4,b5,b6,b7,b8,d1,d2,d3,d4,d5,d6,d7,d8⟩:=qq
 dsimp only [netCells]
 obtain⟨w0,e0⟩:∃ z,z=w1.alloc (.cells #[.int .i64 n.mesh.g.w,.int .i64 n.mesh.g.h,.slice b1 n.mesh.br.length d1,.slice b2 n.pa.length d2,.slice b3 n.pb.length d3,.slice b4 n.bufs.length d4,.slice b5 n.owners.length d5,.slice b6 n.turns.length d6,.slice b7 n.srcs.length d7,.slice b8 n.arrs.length d8,.int .i64 n.time] 42):=⟨_,rfl⟩
 have hz0:w0.heap.size=w1.heap.size+1:=by rw[e0];simp only[szs]
 have hw01:Below w1.heap.size w1 w0:=by rw[e0];exact bw_alloc _ (bw_refl w1)
 obtain⟨bx,ebx⟩:∃ z,z=w1.heap.size:=⟨_,rfl⟩
 have HBT:Hid (BT w0 bx n ⟨b1,b2,b3,b4,b5,b6,b7,b8,d1,d2,d3,d4,d5,d6,d7,d8⟩):=Lib.hid (by rw[e0,ebx];exact blk_new w1 _)
 obtain⟨lo,elo⟩:∃ z,z=w.heap.size+3:=⟨_,rfl⟩
 have HN:Hid (NX w0 lo n ⟨b1,b2,b3,b4,b5,b6,b7,b8,d1,d2,d3,d4,d5,d6,d7,d8⟩ v4 v7 v8):=Lib.hid ((HN0.lower (by simp only[szs];omega)).below hw01)
 have HHB:Hid (Below w.heap.size w w0):=Lib.hid (bw_then (bw_then (bw_alloc _ (bw_alloc _ (bw_alloc _ (bw_refl w)))) HBC) hw01)
 have sw:w.heap.size+3≤w1.heap.size:=by have:=bw_size HBC;simp only[szs] at this;omega
 have HX0:Hid (Box w0 w.heap.size #[.int .i64 n.mesh.g.w,.int .i64 n.mesh.g.h,.slice a1 n.mesh.br.length c1,.slice a2 n.pa.length c2,.slice a3 n.pb.length c3,.slice a4 n.bufs.length c4,.slice a5 n.owners.length c5,.slice a6 n.turns.length c6,.slice a7 n.srcs.length c7,.slice a8 n.arrs.length c8,.int .i64 n.time]):=Lib.hid ((((((Box.new w w.heap.size #[.int .i64 n.mesh.g.w,.int .i64 n.mesh.g.h,.slice a1 n.mesh.br.length c1,.slice a2 n.pa.length c2,.slice a3 n.pb.length c3,.slice a4 n.bufs.length c4,.slice a5 n.owners.length c5,.slice a6 n.turns.length c6,.slice a7 n.srcs.length c7,.slice a8 n.arrs.length c8,.int .i64 n.time] 42 rfl).alloc _).alloc _).below HBC)).below hw01)
 have HP0:Hid (Box w0 (w.heap.size+1) #[.int .i64 p.id,.int .i64 p.src,.int .i64 p.dst,.int .i64 p.cls,.int .i64 p.len]):=Lib.hid (((((Box.new (w.alloc (.cells #[.int .i64 n.mesh.g.w,.int .i64 n.mesh.g.h,.slice a1 n.mesh.br.length c1,.slice a2 n.pa.length c2,.slice a3 n.pb.length c3,.slice a4 n.bufs.length c4,.slice a5 n.owners.length c5,.slice a6 n.turns.length c6,.slice a7 n.srcs.length c7,.slice a8 n.arrs.length c8,.int .i64 n.time] 42)) (w.heap.size+1) #[.int .i64 p.id,.int .i64 p.src,.int .i64 p.dst,.int .i64 p.cls,.int .i64 p.len] 38 (by simp only[szs])).alloc _).below HBC)).below hw01)
 have HZB:Hid (BN w0 (w.heap.size+2)):=Lib.hid (((BT.bn (by have hn:=BT.new ((w.alloc (.cells #[.int .i64 n.mesh.g.w,.int .i64 n.mesh.g.h,.slice a1 n.mesh.br.length c1,.slice a2 n.pa.length c2,.slice a3 n.pb.length c3,.slice a4 n.bufs.length c4,.slice a5 n.owners.length c5,.slice a6 n.turns.length c6,.slice a7 n.srcs.length c7,.slice a8 n.arrs.length c8,.int .i64 n.time] 42)).alloc (.cells #[.int .i64 p.id,.int .i64 p.src,.int .i64 p.dst,.int .i64 p.cls,.int .i64 p.len] 38)) ⟨⟨⟨0,0⟩,[]⟩,[],[],[],[],[],[],[],0⟩ ⟨none,none,none,none,none,none,none,none,0,0,0,0,0,0,0,0⟩;simp only[szs] at hn;exact hn)).below HBC).below hw01)
 have sb1:bx<w0.heap.size:=by omega
 have sb2:w.heap.size+3≤bx:=by omega
 have sl1:lo≤w.heap.size+3:=by omega
 have sl2:w.heap.size+3≤lo:=by omega
 have sl4:lo≤w0.heap.size:=by omega
 -- the row that grows
 obtain⟨g7,eg7,t7,s7⟩:=HN.out.form7 l7
 dsimp only at eg7
 subst eg7
 obtain⟨nd,_,_,_,n1,n5⟩:=packet_parts hk
 have nd1:=isNode_iff.1 nd
 obtain⟨k,hkt⟩:∃ k:Nat,p.src.toNat=k:=⟨_,rfl⟩
 have hkk:p.src=(k:Int):=by omega
 have hks:k<n.srcs.length:=by have:=HSL.out;omega
 have HKS:=Lib.hid hks
 have hrow:=HN.out.row7 k hks
 try dsimp only at hrow
 obtain⟨As,cs,hv⟩:=Kd.R_slice hrow
 rw[hv] at hrow
 obtain⟨R,hR⟩:∃ R,rl n.srcs (k:Int)=R:=⟨_,rfl⟩
 rw[hR] at hrow hv
 have hRl:R.length≤2097152:=by rw[←hR];exact NBQ.out.h10 _ (rl_mem hks)
 obtain⟨L,hL⟩:∃ L,flitsOf n.mesh.g p=L:=⟨_,rfl⟩
 have HCF:Hid (∀ W:World,Calls Tryz.prog 182 #[.agg #[.int .i64 n.mesh.g.w,.int .i64 n.mesh.g.h],.agg #[.int .i64 p.id,.int .i64 p.src,.int .i64 p.dst,.int .i64 p.cls,.int .i64 p.len]] W fun e w'=>GotF W w' L e∧Below W.heap.size W w'):=Lib.hid (fun W=>by rw[←hL];exact spec_FlitsOf n.mesh.g p W)
 have hL5:L.length≤5:=by have:=flitsOf_len hk;rw[hL] at this;omega
 have HE:Hid (sendN n p={ n with srcs:=n.srcs.set k (R++L) }):=Lib.hid (by unfold sendN;rw[hL,hkk,hR,Int.toNat_natCast])
 obtain⟨cl1,cl2⟩:=own_facts7 (x:=n) HN.out rfl hks hv
 have CL1:=Lib.hid cl1
 have CL2:=Lib.hid cl2
 have HV:=Lib.hid hv
 have HRow:=Lib.hid hrow
 obtain⟨rb,hrb⟩:∃ rb,(Value.slice As R.length cs).ownBlock=rb:=⟨_,rfl⟩
 have hbo:BlkT w0 g7 145:=own_typed HN.out.srcs g7 rfl
 have nb1:¬ some bx=rb:=fun e=>by obtain⟨inner,hin⟩:=Kd.R_own hrow;exact own_ne hin HBT.out (by decide) (e.trans hrb.symm)
 have nb3:¬ some g7=rb:=fun e=>by
  obtain⟨inner,hin⟩:=Kd.R_own hrow
  obtain⟨cc,hc⟩:=hbo
  exact own_ne hin hc (by decide) (e.trans hrb.symm)
 have low:∀ j,(Value.slice As R.length cs).ownBlock=some j→lo≤j:=fun j hj=>Kd.R_base hrow j hj
 have nbn:¬ some w.heap.size=rb:=fun e=>by have:=low _ (hrb.trans e.symm);omega
 have nbp:¬ some (w.heap.size+1)=rb:=fun e=>by have:=low _ (hrb.trans e.symm);omega
 have nbo:¬ bx=g7:=by
  obtain⟨cc,hc⟩:=hbo
  exact blk_ne HBT.out hc (by decide)
 have nno:¬ w.heap.size=g7:=by omega
 have npo:¬ w.heap.size+1=g7:=by omega
 have HRB1:=Lib.hid hrb
 have HBO:=Lib.hid hbo
 have i0:(0:Int)≤p.src:=by omega
 have i1:p.src<(n.srcs.length:Int):=by omega
 have x0:w0.cell? ⟨w.heap.size,0,none⟩=some (.int .i64 n.mesh.g.w):=HX0.out.get 0
 have x1:w0.cell? ⟨w.heap.size,1,none⟩=some (.int .i64 n.mesh.g.h):=HX0.out.get 1
 have p0:w0.cell? ⟨w.heap.size+1,0,none⟩=some (.int .i64 p.id):=HP0.out.get 0
 have p1:w0.cell? ⟨w.heap.size+1,1,none⟩=some (.int .i64 p.src):=HP0.out.get 1
 have p2:w0.cell? ⟨w.heap.size+1,2,none⟩=some (.int .i64 p.dst):=HP0.out.get 2
 have p3:w0.cell? ⟨w.heap.size+1,3,none⟩=some (.int .i64 p.cls):=HP0.out.get 3
 have p4:w0.cell? ⟨w.heap.size+1,4,none⟩=some (.int .i64 p.len):=HP0.out.get 4
 have z8:w0.cell? ⟨bx,8,none⟩=some (.slice (some ⟨g7,0,none⟩) n.srcs.length d7):=HBT.out.box.get 8
 have g7z:g7<w0.heap.size:=s7
 have q1:w.heap.size<w0.heap.size:=by omega
 have q2:w.heap.size+1<w0.heap.size:=by omega
 clear hkk hz0 sw HBC hw01 HN0 elo hk hs hsb nd nd1 n1 n5 hks hv hR hL hrow hbo hrb low
 go_wp2_with fail
 rw[←ebx]
 rw[←e0]
 clear e0 ebx
 refine wp_region_tx (CK w0 rb) (fun i=>[.pointer (some ⟨bx,8,none⟩),.slice (some ⟨g7,0,none⟩) n.srcs.length d7,.pointer (some ⟨w.heap.size+1,1,none⟩),.int .i64 p.src,.pointer (some ⟨bx,8,none⟩),.slice (some ⟨g7,0,none⟩) n.srcs.length d7,.pointer (some ⟨w.heap.size+1,1,none⟩),.int .i64 p.src,.pointer (some ⟨g7,k,none⟩),.slice As R.length cs,.pointer (some ⟨w.heap.size,0,none⟩),.pointer (some ⟨w.heap.size,0,none⟩),.agg #[.int .i64 n.mesh.g.w,.int .i64 n.mesh.g.h],.agg #[.int .i64 p.id,.int .i64 p.src,.int .i64 p.dst,.int .i64 p.cls,.int .i64 p.len],undef,undef,.pointer (some ⟨g7,k,none⟩)].getD i undef) 17 [(0,.quiet),(1,.quiet),(2,.quiet),(3,.quiet),(4,.quiet),(5,.quiet),(6,.quiet),(7,.quiet),(8,.quiet),(9,.quiet),(10,.quiet),(11,.quiet),(12,.quiet),(13,.quiet),(14,.chain),(15,.chain),(16,.quiet)] (by kernel_rfl) (by kernel_rfl) (by kernel_rfl) (by kernel_rfl) (by kernel_rfl) (by kernel_rfl) (by kernel_rfl) (by kernel_rfl) CK.drew (fun W=>W=w0.drew) rfl ?_
 refine wpTx_q (some 8) rfl rfl (by rfl) (fun W hC=>?_) ?_
 ·clear hC
  go_simp
  try rfl
 try simp only[Act.put,nms]
 refine wpTx_q (some 9) rfl rfl (by rfl) (fun W hC=>?_) ?_
 ·have:=hC.cell sb1 nb1 z8
  clear hC
  go_simp
  try rfl
 try simp only[Act.put,nms]
 refine wpTx_q (some 10) rfl rfl (by rfl) (fun W hC=>?_) ?_
 ·clear hC
  go_simp
  try rfl
 try simp only[Act.put,nms]
 refine wpTx_q (some 11) rfl rfl (by rfl) (fun W hC=>?_) ?_
 ·have:=hC.cell q2 nbp p1
  clear hC
  go_simp
  try rfl
 try simp only[Act.put,nms]
 refine wpTx_q (some 12) rfl rfl (by rfl) (fun W hC=>?_) ?_
 ·clear hC
  go_simp
  try rfl
 try simp only[Act.put,nms]
 refine wpTx_q (some 13) rfl rfl (by rfl) (fun W hC=>?_) ?_
 ·have:=hC.cell sb1 nb1 z8
  clear hC
  go_simp
  try rfl
 try simp only[Act.put,nms]
 refine wpTx_q (some 14) rfl rfl (by rfl) (fun W hC=>?_) ?_
 ·clear hC
  go_simp
  try rfl
 try simp only[Act.put,nms]
 refine wpTx_q (some 15) rfl rfl (by rfl) (fun W hC=>?_) ?_
 ·have:=hC.cell q2 nbp p1
  clear hC
  go_simp
  try rfl
 try simp only[Act.put,nms]
 refine wpTx_q (some 16) rfl rfl (by rfl) (fun W hC=>?_) ?_
 ·clear hC
  go_simp
  try rfl
 try simp only[Act.put,nms]
 refine wpTx_q (some 17) rfl rfl (by rfl) (fun W hC=>?_) ?_
 ·have:=hC.cell g7z nb3 CL1.out
  clear hC
  go_simp
  try rfl
 try simp only[Act.put,nms]
 refine wpTx_q (some 18) rfl rfl (by rfl) (fun W hC=>?_) ?_
 ·clear hC
  go_simp
  try rfl
 try simp only[Act.put,nms]
 refine wpTx_q (some 19) rfl rfl (by rfl) (fun W hC=>?_) ?_
 ·clear hC
  go_simp
  try rfl
 try simp only[Act.put,nms]
 refine wpTx_q (some 20) rfl rfl (by rfl) (fun W hC=>?_) ?_
 ·have:=hC.cell q1 nbn x0
  have:=hC.cell q1 nbn x1
  clear hC
  go_simp
  try rfl
 try simp only[Act.put,nms]
 refine wpTx_q (some 21) rfl rfl (by rfl) (fun W hC=>?_) ?_
 ·have:=hC.cell q2 nbp p0
  have:=hC.cell q2 nbp p1
  have:=hC.cell q2 nbp p2
  have:=hC.cell q2 nbp p3
  have:=hC.cell q2 nbp p4
  clear hC
  go_simp
  try rfl
 try simp only[Act.put,nms]
 refine wpTx_c (some 22) rfl rfl (by rfl) ((none,0):Option Addr × Nat) (fun y=>.slice y.1 L.length y.2) (fun y W=>kF.R 153 W w0.heap.size (fun _=>True) (.slice y.1 L.length y.2) L∧Below w0.heap.size w0 W) (fun W hF hC=>?_) (fun yc=>?_)
 ·subst hF
  refine LoOp.enter (by go_simp;first|done|exact⟨rfl,rfl⟩|rfl) ?_
  refine(HCF.out _).mono ?_
  rintro e W1 ⟨hg1,Ba⟩
  obtain⟨v,rfl,hO⟩:=hg1
  obtain⟨A,c,rfl⟩:=Kd.R_slice hO
  exact⟨_,rfl,(A,c),rfl,hC.below Ba,hO,bw_then (bw_drew (bw_refl _)) Ba⟩
 try simp only[Act.put,nms]
 refine wpTx_c (some 23) rfl rfl (by rfl) ((none,0):Option Addr × Nat) (fun y=>.slice y.1 (R.length+L.length) y.2) (fun y W9=>∃ wf,Below w0.heap.size w0 wf∧kF.R 153 W9 lo (fun _=>True) (.slice y.1 (R++L).length y.2) (R++L)∧wf.grownBy W9 (Value.slice As R.length cs).ownBlock∧Anew wf (.slice y.1 (R++L).length y.2) (.slice As R.length cs)) (fun W hF hC=>?_) (fun yv=>?_)
 ·obtain⟨Af,cf⟩:=yc
  obtain⟨HF0,hbf⟩:=hF
  refine LoOp.of_if (ops:=#[]) rfl rfl (by simp) (by rfl) (apps_FS (ops:=#[]) (W:=W) (B:=lo) (by rfl) (.tmp 17) (.tmp 22) rfl (.slice As R.length cs) R L Af cf rfl rfl (Kd.R_below HRow.out hbf) (Kd.R_rowX HF0).2.2 (Nat.le_trans sl4 (bw_size hbf)) (by omega) ?_)
  intro v9 w9 H9 hg9 ha9
  obtain⟨A9,d9,rfl⟩:=Kd.R_slice H9
  have hg9r:=hg9
  rw[HRB1.out] at hg9r
  refine⟨(A9,d9),?_,hC.grown hg9r,W,hbf,H9,hg9,ha9⟩
  show Value.slice A9 (R++L).length d9=.slice A9 (R.length+L.length) d9
  rw[List.length_append]
 try simp only[Act.put,nms]
 refine wpTx_q (some 24) rfl rfl (by rfl) (fun W hC=>?_) ?_
 ·clear hC
  go_simp
  try rfl
 try simp only[Act.put,nms]
 refine wpTx_z (fun w9 hF hC=>?_)
 obtain⟨A9,d9⟩:=yv
 obtain⟨wf,hbff,H9,hg9,ha9⟩:=hF
 dsimp only at H9 ha9
 have k1:=hC.cell g7z nb3 CL1.out
 have k2:=hC.frozen g7z nb3 CL2.out
 clear hC
 refine⟨_,rfl,by rfl,?_⟩
 go_simp
 have hl9:(R++L).length=R.length+L.length:=by simp
 obtain⟨W10,e10⟩:∃ z,z=w9.setCell ⟨g7,k,none⟩ (.slice A9 (R.length+L.length) d9):=⟨_,rfl⟩
 have HNf:=HN.out.below hbff
 have HROf:=Kd.R_below HRow.out hbff
 obtain⟨Y,eY⟩:∃ Y:Net,Y={ n with srcs:=n.srcs.set k (R++L) }:=⟨_,rfl⟩
 have HN9:Hid (NX W10 lo Y ⟨b1,b2,b3,b4,b5,b6,some ⟨g7,0,none⟩,b8,d1,d2,d3,d4,d5,d6,d7,d8⟩ v4 (v7.set k (.slice A9 (R.length+L.length) d9)) v8):=Lib.hid (by
  have hh:=HNf.setSrc (g:=g7) (k:=k) (u:=.slice A9 (R++L).length d9) (y:=R++L) rfl HKS.out (by rw[show vr v7 k=.slice As R.length cs from HV.out];exact hg9) H9 (by rw[show vr v7 k=.slice As R.length cs from HV.out];exact ha9)
  rw[hl9] at hh
  rw[e10,eY]
  exact hh)
 have HB9:Hid (BT W10 bx Y ⟨b1,b2,b3,b4,b5,b6,some ⟨g7,0,none⟩,b8,d1,d2,d3,d4,d5,d6,d7,d8⟩):=Lib.hid (by
  rw[e10,eY]
  exact(((HBT.out.below hbff).grown hg9 HROf).far ((HBO.out.below hbff).grown hg9 HROf) (by decide) _ _).eq (by simp[netCells]))
 have HW9:Hid (Below lo w0 W10):=Lib.hid (by
  rw[e10]
  exact below_setc (Below.grownRow (Below.cut hbff sl4) hg9 (Nat.le_trans sl4 (bw_size hbff)) (fun j hj=>Kd.R_base HROf j hj)) t7 _ _)
 have HE9:Hid (sendN n p=Y):=Lib.hid (by rw[eY];exact HE.out)
 have HZ9:Hid (BN W10 (w.heap.size+2)):=Lib.hid (HZB.out.low HW9.out (by omega))
 rw[←e10]
 clear e10 k1 k2 hg9 H9 ha9 HNf HROf eY hbff x0 x1 p0 p1 p2 p3 p4 z8 q1 q2 cl1 cl2 hL5 hRl HE hkt i0 i1 hl9
 have bl:=HB9.out.lt
 have b0x:W10.cell? ⟨bx,0,none⟩=some (.int .i64 Y.mesh.g.w):=HB9.out.box.get 0
 have b1x:W10.cell? ⟨bx,1,none⟩=some (.int .i64 Y.mesh.g.h):=HB9.out.box.get 1
 have b2x:W10.cell? ⟨bx,2,none⟩=some (.slice b1 Y.mesh.br.length d1):=HB9.out.box.get 2
 have b3x:W10.cell? ⟨bx,3,none⟩=some (.slice b2 Y.pa.length d2):=HB9.out.box.get 3
 have b4x:W10.cell? ⟨bx,4,none⟩=some (.slice b3 Y.pb.length d3):=HB9.out.box.get 4
 have b5x:W10.cell? ⟨bx,5,none⟩=some (.slice b4 Y.bufs.length d4):=HB9.out.box.get 5
 have b6x:W10.cell? ⟨bx,6,none⟩=some (.slice b5 Y.owners.length d5):=HB9.out.box.get 6
 have b7x:W10.cell? ⟨bx,7,none⟩=some (.slice b6 Y.turns.length d6):=HB9.out.box.get 7
 have b8x:W10.cell? ⟨bx,8,none⟩=some (.slice (some ⟨g7,0,none⟩) Y.srcs.length d7):=HB9.out.box.get 8
 have b9x:W10.cell? ⟨bx,9,none⟩=some (.slice b8 Y.arrs.length d8):=HB9.out.box.get 9
 have b10x:W10.cell? ⟨bx,10,none⟩=some (.int .i64 Y.time):=HB9.out.box.get 10
 obtain⟨⟨ry0,rv0⟩,⟨ry1,rv1⟩,⟨ry2,rv2⟩,⟨ry3,rv3⟩,⟨ry4,rv4⟩,⟨ry5,rv5⟩,⟨ry6,rv6⟩,⟨ry7,rv7⟩,⟨ry8,rv8⟩,⟨ry9,rv9⟩,⟨ry10,rv10⟩,rz0,rz1,rz2,rz3,rz4,rz5,rz6,rz7,rz8,rz9,rz10⟩:=allBN HZ9.out
 have nz:¬ w.heap.size+2=bx:=by omega
 have nz':¬ bx=w.heap.size+2:=by omega
 go_wp2
 obtain⟨W11,e11⟩:∃ z,z=putN W10 (w.heap.size+2) Y ⟨b1,b2,b3,b4,b5,b6,some ⟨g7,0,none⟩,b8,d1,d2,d3,d4,d5,d6,d7,d8⟩:=⟨_,rfl⟩
 have HB11:Hid (BT W11 (w.heap.size+2) Y ⟨b1,b2,b3,b4,b5,b6,some ⟨g7,0,none⟩,b8,d1,d2,d3,d4,d5,d6,d7,d8⟩):=Lib.hid (by rw[e11];exact putN_BT HZ9.out)
 have HN11:Hid (NX W11 lo Y ⟨b1,b2,b3,b4,b5,b6,some ⟨g7,0,none⟩,b8,d1,d2,d3,d4,d5,d6,d7,d8⟩ v4 (v7.set k (.slice A9 (R.length+L.length) d9)) v8):=Lib.hid (by rw[e11];exact HN9.out.put HZ9.out)
 have HL11:Hid (Below w.heap.size w W11):=Lib.hid (by
  have h1:Below w.heap.size w W10:=bw_trans HHB.out HW9.out (by omega)
  rw[e11]
  exact below_put h1 (by omega))
 unfold putN at e11
 try dsimp only at e11
 rw[←e11]
 clear e11
 exact bodyPost_ret (results_cell_row Tryz.results137 _ _ (w.heap.size+2) 42 _ (0,0) _ rfl HB11.out Tryz.underlying42 rfl (by kernel_rfl)) rfl (by rw[HE9.out];exact⟨⟨_,_,_,_,rfl,HN11.out.lower (by omega)⟩,HL11.out⟩)
theorem rl_memJ {l:List (List Flit)} {a:Int} (h0:0≤a) (h1:a<(l.length:Int)):rl l a∈l:=by
  have:=rl_mem (l:=l) (k:=a.toNat) (by omega)
  rwa [Int.toNat_of_nonneg h0] at this
theorem sendPacket_no {n:Net} {p:Packet} (h:netOk n=false∨sendOk n p=false):sendPacketN n p=n∧sendPacketB n p=false:=by
  unfold sendPacketN sendPacketB sndN
  rcases h with h|h <;> simp[h]
theorem sendPacket_yes {n:Net} {p:Packet} (h:netOk n=true) (h2:sendOk n p=true):sendPacketN n p=sendN n p∧sendPacketB n p=true:=by
  unfold sendPacketN sendPacketB sndN
  simp[h,h2]
set_option maxHeartbeats 16000000 in
set_option maxRecDepth 100000 in
theorem spec_SendPacket (n:Net) (p:Packet) (q:NA) (w:World) (hr:NetR 153 w n q) :
  Calls Tryz.prog 173 #[.agg (netCells n q),.agg #[.int .i64 p.id,.int .i64 p.src,.int .i64 p.dst,.int .i64 p.cls,.int .i64 p.len]] w fun e w'=>GotNV w w' (sendPacketN n p) (.bool (sendPacketB n p)) e∧Below w.heap.size w w':=by
 have HR:=Lib.hid hr
 have NBQ:=Lib.hid hr.nb
 obtain⟨a1,a2,a3,a4,a5,a6,a7,a8,c1,c2,c3,c4,c5,c6,c7,c8⟩:=q
 clear hr
 dsimp only [netCells]

 go_enter Tryz.func173,Tryz.ntmps173
 go_wp2_with fail
 obtain⟨w0,e0⟩:∃ z,z=(((w.alloc (.cells #[.int .i64 n.mesh.g.w,.int .i64 n.mesh.g.h,.slice a1 n.mesh.br.length c1,.slice a2 n.pa.length c2,.slice a3 n.pb.length c3,.slice a4 n.bufs.length c4,.slice a5 n.owners.length c5,.slice a6 n.turns.length c6,.slice a7 n.srcs.length c7,.slice a8 n.arrs.length c8,.int .i64 n.time] 42)).alloc (.cells #[.int .i64 p.id,.int .i64 p.src,.int .i64 p.dst,.int .i64 p.cls,.int .i64 p.len] 38)).alloc (.cells #[.int .i64 0,.int .i64 0,.slice none 0 0,.slice none 0 0,.slice none 0 0,.slice none 0 0,.slice none 0 0,.slice none 0 0,.slice none 0 0,.slice none 0 0,.int .i64 0] 42)):=⟨_,rfl⟩
 have HB0:Below w.heap.size w w0:=by rw[e0];exact bw_alloc _ (bw_alloc _ (bw_alloc _ (bw_refl w)))
 have HR0:=Lib.hid (HR.out.below HB0)
 have HW0:=Lib.hid HB0
 have HX0:Hid (Box w0 w.heap.size #[.int .i64 n.mesh.g.w,.int .i64 n.mesh.g.h,.slice a1 n.mesh.br.length c1,.slice a2 n.pa.length c2,.slice a3 n.pb.length c3,.slice a4 n.bufs.length c4,.slice a5 n.owners.length c5,.slice a6 n.turns.length c6,.slice a7 n.srcs.length c7,.slice a8 n.arrs.length c8,.int .i64 n.time]):=Lib.hid (by rw[e0];exact((Box.new w w.heap.size #[.int .i64 n.mesh.g.w,.int .i64 n.mesh.g.h,.slice a1 n.mesh.br.length c1,.slice a2 n.pa.length c2,.slice a3 n.pb.length c3,.slice a4 n.bufs.length c4,.slice a5 n.owners.length c5,.slice a6 n.turns.length c6,.slice a7 n.srcs.length c7,.slice a8 n.arrs.length c8,.int .i64 n.time] 42 rfl).alloc _).alloc _)
 have HP0:Hid (Box w0 (w.heap.size+1) #[.int .i64 p.id,.int .i64 p.src,.int .i64 p.dst,.int .i64 p.cls,.int .i64 p.len]):=Lib.hid (by rw[e0];exact(Box.new (w.alloc (.cells #[.int .i64 n.mesh.g.w,.int .i64 n.mesh.g.h,.slice a1 n.mesh.br.length c1,.slice a2 n.pa.length c2,.slice a3 n.pb.length c3,.slice a4 n.bufs.length c4,.slice a5 n.owners.length c5,.slice a6 n.turns.length c6,.slice a7 n.srcs.length c7,.slice a8 n.arrs.length c8,.int .i64 n.time] 42)) (w.heap.size+1) #[.int .i64 p.id,.int .i64 p.src,.int .i64 p.dst,.int .i64 p.cls,.int .i64 p.len] 38 (by simp only[szs])).alloc _)
 have HZ0:Hid (BN w0 (w.heap.size+2)):=Lib.hid (by
  rw[e0]
  exact BT.bn (by have hn:=BT.new ((w.alloc (.cells #[.int .i64 n.mesh.g.w,.int .i64 n.mesh.g.h,.slice a1 n.mesh.br.length c1,.slice a2 n.pa.length c2,.slice a3 n.pb.length c3,.slice a4 n.bufs.length c4,.slice a5 n.owners.length c5,.slice a6 n.turns.length c6,.slice a7 n.srcs.length c7,.slice a8 n.arrs.length c8,.int .i64 n.time] 42)).alloc (.cells #[.int .i64 p.id,.int .i64 p.src,.int .i64 p.dst,.int .i64 p.cls,.int .i64 p.len] 38)) ⟨⟨⟨0,0⟩,[]⟩,[],[],[],[],[],[],[],0⟩ ⟨none,none,none,none,none,none,none,none,0,0,0,0,0,0,0,0⟩;simp only[szs] at hn;exact hn))
 rw[←e0]
 clear e0 HB0
 have box11:Box w0 w.heap.size #[.int .i64 n.mesh.g.w,.int .i64 n.mesh.g.h,.slice a1 n.mesh.br.length c1,.slice a2 n.pa.length c2,.slice a3 n.pb.length c3,.slice a4 n.bufs.length c4,.slice a5 n.owners.length c5,.slice a6 n.turns.length c6,.slice a7 n.srcs.length c7,.slice a8 n.arrs.length c8,.int .i64 n.time]:=HX0.out
 obtain⟨x0,x1,x2,x3,x4,x5,x6,x7,x8,x9,x10⟩:=all11 box11
 clear box11
 have xl:=HX0.out.lt
 have p0:w0.cell? ⟨w.heap.size+1,0,none⟩=some (.int .i64 p.id):=HP0.out.get 0
 have p1:w0.cell? ⟨w.heap.size+1,1,none⟩=some (.int .i64 p.src):=HP0.out.get 1
 have p2:w0.cell? ⟨w.heap.size+1,2,none⟩=some (.int .i64 p.dst):=HP0.out.get 2
 have p3:w0.cell? ⟨w.heap.size+1,3,none⟩=some (.int .i64 p.cls):=HP0.out.get 3
 have p4:w0.cell? ⟨w.heap.size+1,4,none⟩=some (.int .i64 p.len):=HP0.out.get 4
 have pl:=HP0.out.lt
 have HNO0:∀ b:Bool,netOk n=b→Hid (∀ W,Below w0.heap.size w0 W→Calls Tryz.prog 82 #[.agg #[.int .i64 n.mesh.g.w,.int .i64 n.mesh.g.h,.slice a1 n.mesh.br.length c1,.slice a2 n.pa.length c2,.slice a3 n.pb.length c3,.slice a4 n.bufs.length c4,.slice a5 n.owners.length c5,.slice a6 n.turns.length c6,.slice a7 n.srcs.length c7,.slice a8 n.arrs.length c8,.int .i64 n.time]] W fun e w'=>e=.returned (.bool b)∧Below W.heap.size W w'):=fun b hb=>Lib.hid (fun W hW=>by have h:=spec_NetOk n _ W (HR0.out.below hW);rw[hb] at h;exact h)
 have HPO0:∀ b:Bool,packetOk n.mesh.g p=b→Hid (∀ W,Calls Tryz.prog 168 #[.agg #[.int .i64 n.mesh.g.w,.int .i64 n.mesh.g.h],.agg #[.int .i64 p.id,.int .i64 p.src,.int .i64 p.dst,.int .i64 p.cls,.int .i64 p.len]] W fun e w'=>e=.returned (.bool b)∧Below W.heap.size W w'):=fun b hb=>Lib.hid (fun W=>by have h:=spec_PacketOk n.mesh.g p W;rw[hb] at h;exact h)
 cases hk:netOk n
 ·have HE:=Lib.hid (sendPacket_no (p:=p) (.inl hk))
  have HNO:=HNO0 _ hk
  clear HNO0 HPO0 hk
  go_wp2_with fail
  refine wp_region_far (w0) (by kernel_rfl) (by kernel_rfl) bel ?_
  have hqc:=far_cell (w0)
  have hqf:=far_frozen (w0)
  repeat (first|go_big_quiet_step ((go_at_call 82;exact far_call (HNO.out _ (Far.h _))))|quiet_step ((go_at_call 82;exact far_call (HNO.out _ (Far.h _)))))
  refine wpQuiet_nil ?_
  intro wq hbq
  clear hqc hqf
  obtain⟨hcq,hfq,hzq⟩:=bcell hbq
  try simp only[szs] at hzq
  have HR2:=Lib.hid (HR0.out.below hbq)
  have HZ2:Hid (BN wq (w.heap.size+2)):=Lib.hid (HZ0.out.below hbq)
  have HWB:Hid (Below w.heap.size w wq):=Lib.hid (bw_then HW0.out hbq)
  have x0q:=HX0.out.below hbq
  have p0q:=HP0.out.below hbq
  repeat (first|clear x0|clear x1|clear x2|clear x3|clear x4|clear x5|clear x6|clear x7|clear x8|clear x9|clear x10)
  repeat (first|clear p0|clear p1|clear p2|clear p3|clear p4)
  clear HR0 HZ0 HW0 HX0 HP0
  have box11:Box wq w.heap.size #[.int .i64 n.mesh.g.w,.int .i64 n.mesh.g.h,.slice a1 n.mesh.br.length c1,.slice a2 n.pa.length c2,.slice a3 n.pb.length c3,.slice a4 n.bufs.length c4,.slice a5 n.owners.length c5,.slice a6 n.turns.length c6,.slice a7 n.srcs.length c7,.slice a8 n.arrs.length c8,.int .i64 n.time]:=x0q
  obtain⟨x0,x1,x2,x3,x4,x5,x6,x7,x8,x9,x10⟩:=all11 box11
  clear box11
  have xl:=x0q.lt
  have p0:wq.cell? ⟨w.heap.size+1,0,none⟩=some (.int .i64 p.id):=p0q.get 0
  have p1:wq.cell? ⟨w.heap.size+1,1,none⟩=some (.int .i64 p.src):=p0q.get 1
  have p2:wq.cell? ⟨w.heap.size+1,2,none⟩=some (.int .i64 p.dst):=p0q.get 2
  have p3:wq.cell? ⟨w.heap.size+1,3,none⟩=some (.int .i64 p.cls):=p0q.get 3
  have p4:wq.cell? ⟨w.heap.size+1,4,none⟩=some (.int .i64 p.len):=p0q.get 4
  have pl:=p0q.lt
  clear x0q p0q
  repeat (first|clear hcq|clear hfq|clear hzq)

  go_wp2_with fail
  refine(spec_l15Copy n _ _ HR2.out).mono ?_
  rintro e w4 ⟨hg4,hb4⟩
  obtain⟨q4,y4,y7,y8,rfl,HN0⟩:=hg4
  obtain⟨p1,p2,p3,p4,p5,p6,p7,p8,r1,r2,r3,r4,r5,r6,r7,r8⟩:=q4
  dsimp only [netCells]
  have HN4:=Lib.hid HN0
  have HZ4:Hid (BN w4 (w.heap.size+2)):=Lib.hid (HZ2.out.below hb4)
  have HWB4:Hid (Below w.heap.size w w4):=Lib.hid (bw_then HWB.out hb4)
  have zz4:=bw_size hb4
  have zz5:=bw_size HWB.out
  clear HN0 hb4
  repeat (first|clear hcq|clear hfq|clear hzq|clear hbq)
  repeat (first|clear x0|clear x1|clear x2|clear x3|clear x4|clear x5|clear x6|clear x7|clear x8|clear x9|clear x10)
  repeat (first|clear p0|clear p1|clear p2|clear p3|clear p4)

  obtain⟨⟨ry0,rv0⟩,⟨ry1,rv1⟩,⟨ry2,rv2⟩,⟨ry3,rv3⟩,⟨ry4,rv4⟩,⟨ry5,rv5⟩,⟨ry6,rv6⟩,⟨ry7,rv7⟩,⟨ry8,rv8⟩,⟨ry9,rv9⟩,⟨ry10,rv10⟩,rz0,rz1,rz2,rz3,rz4,rz5,rz6,rz7,rz8,rz9,rz10⟩:=allBN HZ4.out
  go_wp2
  obtain⟨W9,e9⟩:∃ z,z=putN w4 (w.heap.size+2) n ⟨p1,p2,p3,p4,p5,p6,p7,p8,r1,r2,r3,r4,r5,r6,r7,r8⟩:=⟨_,rfl⟩
  have HB9:Hid (BT W9 (w.heap.size+2) n ⟨p1,p2,p3,p4,p5,p6,p7,p8,r1,r2,r3,r4,r5,r6,r7,r8⟩):=Lib.hid (by rw[e9];exact putN_BT HZ4.out)
  have HN9:=Lib.hid (show NX W9 _ n ⟨p1,p2,p3,p4,p5,p6,p7,p8,r1,r2,r3,r4,r5,r6,r7,r8⟩ y4 y7 y8 from by rw[e9];exact HN4.out.put HZ4.out)
  have HL9:Hid (Below w.heap.size w W9):=Lib.hid (by rw[e9];exact below_put HWB4.out (by omega))
  unfold putN at e9
  try dsimp only at e9
  rw[←e9]
  clear e9
  exact bodyPost_ret (results_cell_row2 Tryz.results173 _ _ ((w.heap.size+2)) 42 _ (0,0) _ rfl HB9.out Tryz.underlying42 rfl (by kernel_rfl)) rfl (by dsimp only;rw[HE.out.1,HE.out.2];exact⟨⟨_,_,_,_,rfl,HN9.out.lower (by omega)⟩,HL9.out⟩)
 have HNO:=HNO0 _ hk
 have OK:=Lib.hid hk
 clear HNO0 hk
 cases hp:packetOk n.mesh.g p
 ·have HE:=Lib.hid (sendPacket_no (n:=n) (p:=p) (.inr (by unfold sendOk;rw[hp];rfl)))
  have HPO:=HPO0 _ hp
  clear HPO0 hp
  go_wp2_with fail
  refine wp_region_far (w0) (by kernel_rfl) (by kernel_rfl) bel ?_
  have hqc:=far_cell (w0)
  have hqf:=far_frozen (w0)
  repeat (first|go_big_quiet_step (first|(go_at_call 82;exact far_call (HNO.out _ (Far.h _)))|(go_at_call 168;exact far_call (HPO.out _)))|quiet_step (first|(go_at_call 82;exact far_call (HNO.out _ (Far.h _)))|(go_at_call 168;exact far_call (HPO.out _))))
  refine wpQuiet_nil ?_
  intro wq hbq
  clear hqc hqf
  obtain⟨hcq,hfq,hzq⟩:=bcell hbq
  try simp only[szs] at hzq
  have HR2:=Lib.hid (HR0.out.below hbq)
  have HZ2:Hid (BN wq (w.heap.size+2)):=Lib.hid (HZ0.out.below hbq)
  have HWB:Hid (Below w.heap.size w wq):=Lib.hid (bw_then HW0.out hbq)
  have x0q:=HX0.out.below hbq
  have p0q:=HP0.out.below hbq
  repeat (first|clear x0|clear x1|clear x2|clear x3|clear x4|clear x5|clear x6|clear x7|clear x8|clear x9|clear x10)
  repeat (first|clear p0|clear p1|clear p2|clear p3|clear p4)
  clear HR0 HZ0 HW0 HX0 HP0
  have box11:Box wq w.heap.size #[.int .i64 n.mesh.g.w,.int .i64 n.mesh.g.h,.slice a1 n.mesh.br.length c1,.slice a2 n.pa.length c2,.slice a3 n.pb.length c3,.slice a4 n.bufs.length c4,.slice a5 n.owners.length c5,.slice a6 n.turns.length c6,.slice a7 n.srcs.length c7,.slice a8 n.arrs.length c8,.int .i64 n.time]:=x0q
  obtain⟨x0,x1,x2,x3,x4,x5,x6,x7,x8,x9,x10⟩:=all11 box11
  clear box11
  have xl:=x0q.lt
  have p0:wq.cell? ⟨w.heap.size+1,0,none⟩=some (.int .i64 p.id):=p0q.get 0
  have p1:wq.cell? ⟨w.heap.size+1,1,none⟩=some (.int .i64 p.src):=p0q.get 1
  have p2:wq.cell? ⟨w.heap.size+1,2,none⟩=some (.int .i64 p.dst):=p0q.get 2
  have p3:wq.cell? ⟨w.heap.size+1,3,none⟩=some (.int .i64 p.cls):=p0q.get 3
  have p4:wq.cell? ⟨w.heap.size+1,4,none⟩=some (.int .i64 p.len):=p0q.get 4
  have pl:=p0q.lt
  clear x0q p0q
  repeat (first|clear hcq|clear hfq|clear hzq)

  go_wp2_with fail
  refine(spec_l15Copy n _ _ HR2.out).mono ?_
  rintro e w4 ⟨hg4,hb4⟩
  obtain⟨q4,y4,y7,y8,rfl,HN0⟩:=hg4
  obtain⟨p1,p2,p3,p4,p5,p6,p7,p8,r1,r2,r3,r4,r5,r6,r7,r8⟩:=q4
  dsimp only [netCells]
  have HN4:=Lib.hid HN0
  have HZ4:Hid (BN w4 (w.heap.size+2)):=Lib.hid (HZ2.out.below hb4)
  have HWB4:Hid (Below w.heap.size w w4):=Lib.hid (bw_then HWB.out hb4)
  have zz4:=bw_size hb4
  have zz5:=bw_size HWB.out
  clear HN0 hb4
  repeat (first|clear hcq|clear hfq|clear hzq|clear hbq)
  repeat (first|clear x0|clear x1|clear x2|clear x3|clear x4|clear x5|clear x6|clear x7|clear x8|clear x9|clear x10)
  repeat (first|clear p0|clear p1|clear p2|clear p3|clear p4)

  obtain⟨⟨ry0,rv0⟩,⟨ry1,rv1⟩,⟨ry2,rv2⟩,⟨ry3,rv3⟩,⟨ry4,rv4⟩,⟨ry5,rv5⟩,⟨ry6,rv6⟩,⟨ry7,rv7⟩,⟨ry8,rv8⟩,⟨ry9,rv9⟩,⟨ry10,rv10⟩,rz0,rz1,rz2,rz3,rz4,rz5,rz6,rz7,rz8,rz9,rz10⟩:=allBN HZ4.out
  go_wp2
  obtain⟨W9,e9⟩:∃ z,z=putN w4 (w.heap.size+2) n ⟨p1,p2,p3,p4,p5,p6,p7,p8,r1,r2,r3,r4,r5,r6,r7,r8⟩:=⟨_,rfl⟩
  have HB9:Hid (BT W9 (w.heap.size+2) n ⟨p1,p2,p3,p4,p5,p6,p7,p8,r1,r2,r3,r4,r5,r6,r7,r8⟩):=Lib.hid (by rw[e9];exact putN_BT HZ4.out)
  have HN9:=Lib.hid (show NX W9 _ n ⟨p1,p2,p3,p4,p5,p6,p7,p8,r1,r2,r3,r4,r5,r6,r7,r8⟩ y4 y7 y8 from by rw[e9];exact HN4.out.put HZ4.out)
  have HL9:Hid (Below w.heap.size w W9):=Lib.hid (by rw[e9];exact below_put HWB4.out (by omega))
  unfold putN at e9
  try dsimp only at e9
  rw[←e9]
  clear e9
  exact bodyPost_ret (results_cell_row2 Tryz.results173 _ _ ((w.heap.size+2)) 42 _ (0,0) _ rfl HB9.out Tryz.underlying42 rfl (by kernel_rfl)) rfl (by dsimp only;rw[HE.out.1,HE.out.2];exact⟨⟨_,_,_,_,rfl,HN9.out.lower (by omega)⟩,HL9.out⟩)
 have HPO:=HPO0 _ hp
 clear HPO0
 obtain⟨nd,_,_,_,n1,n5⟩:=packet_parts hp
 have nd1:=isNode_iff.1 nd
 have hsb:=srcs_len OK.out
 have s0:0≤p.src:=by omega
 have s1:p.src<(n.srcs.length:Int):=by omega
 have Rso:=HR0.out.srcs
 obtain⟨b7,o7,eb7,hb7,Ai,ci,r0,hle,hCi⟩:=rdB_int Rso p.src s0 s1
 subst eb7
 have hRl:(rl n.srcs p.src).length≤2097152:=NBQ.out.h10 _ (rl_memJ s0 s1)
 have HSO:Hid (sendOk n p=decide (((rl n.srcs p.src).length:Int)+p.len≤60)):=Lib.hid (by unfold sendOk;rw[hp];rfl)
 clear hp nd nd1 hsb Rso hCi hle
 by_cases h60:((rl n.srcs p.src).length:Int)+p.len≤60
 case neg=>
  have HE:=Lib.hid (sendPacket_no (n:=n) (p:=p) (.inr (by rw[HSO.out];exact decide_eq_false h60)))
  have h61:60<((rl n.srcs p.src).length:Int)+p.len:=by omega
  clear h60
  go_wp2_with fail
  refine wp_region_far (w0) (by kernel_rfl) (by kernel_rfl) bel ?_
  have hqc:=far_cell (w0)
  have hqf:=far_frozen (w0)
  repeat (first|go_big_quiet_step (first|(go_at_call 82;exact far_call (HNO.out _ (Far.h _)))|(go_at_call 168;exact far_call (HPO.out _)))|quiet_step (first|(go_at_call 82;exact far_call (HNO.out _ (Far.h _)))|(go_at_call 168;exact far_call (HPO.out _))))
  refine wpQuiet_nil ?_
  intro wq hbq
  clear hqc hqf
  obtain⟨hcq,hfq,hzq⟩:=bcell hbq
  try simp only[szs] at hzq
  have HR2:=Lib.hid (HR0.out.below hbq)
  have HZ2:Hid (BN wq (w.heap.size+2)):=Lib.hid (HZ0.out.below hbq)
  have HWB:Hid (Below w.heap.size w wq):=Lib.hid (bw_then HW0.out hbq)
  have x0q:=HX0.out.below hbq
  have p0q:=HP0.out.below hbq
  repeat (first|clear x0|clear x1|clear x2|clear x3|clear x4|clear x5|clear x6|clear x7|clear x8|clear x9|clear x10)
  repeat (first|clear p0|clear p1|clear p2|clear p3|clear p4)
  clear HR0 HZ0 HW0 HX0 HP0
  have box11:Box wq w.heap.size #[.int .i64 n.mesh.g.w,.int .i64 n.mesh.g.h,.slice a1 n.mesh.br.length c1,.slice a2 n.pa.length c2,.slice a3 n.pb.length c3,.slice a4 n.bufs.length c4,.slice a5 n.owners.length c5,.slice a6 n.turns.length c6,.slice (some ⟨b7,o7,none⟩) n.srcs.length c7,.slice a8 n.arrs.length c8,.int .i64 n.time]:=x0q
  obtain⟨x0,x1,x2,x3,x4,x5,x6,x7,x8,x9,x10⟩:=all11 box11
  clear box11
  have xl:=x0q.lt
  have p0:wq.cell? ⟨w.heap.size+1,0,none⟩=some (.int .i64 p.id):=p0q.get 0
  have p1:wq.cell? ⟨w.heap.size+1,1,none⟩=some (.int .i64 p.src):=p0q.get 1
  have p2:wq.cell? ⟨w.heap.size+1,2,none⟩=some (.int .i64 p.dst):=p0q.get 2
  have p3:wq.cell? ⟨w.heap.size+1,3,none⟩=some (.int .i64 p.cls):=p0q.get 3
  have p4:wq.cell? ⟨w.heap.size+1,4,none⟩=some (.int .i64 p.len):=p0q.get 4
  have pl:=p0q.lt
  clear x0q p0q
  repeat (first|clear hcq|clear hfq|clear hzq)

  go_wp2_with fail
  refine(spec_l15Copy n _ _ HR2.out).mono ?_
  rintro e w4 ⟨hg4,hb4⟩
  obtain⟨q4,y4,y7,y8,rfl,HN0⟩:=hg4
  obtain⟨p1,p2,p3,p4,p5,p6,p7,p8,r1,r2,r3,r4,r5,r6,r7,r8⟩:=q4
  dsimp only [netCells]
  have HN4:=Lib.hid HN0
  have HZ4:Hid (BN w4 (w.heap.size+2)):=Lib.hid (HZ2.out.below hb4)
  have HWB4:Hid (Below w.heap.size w w4):=Lib.hid (bw_then HWB.out hb4)
  have zz4:=bw_size hb4
  have zz5:=bw_size HWB.out
  clear HN0 hb4
  repeat (first|clear hcq|clear hfq|clear hzq|clear hbq)
  repeat (first|clear x0|clear x1|clear x2|clear x3|clear x4|clear x5|clear x6|clear x7|clear x8|clear x9|clear x10)
  repeat (first|clear p0|clear p1|clear p2|clear p3|clear p4)

  obtain⟨⟨ry0,rv0⟩,⟨ry1,rv1⟩,⟨ry2,rv2⟩,⟨ry3,rv3⟩,⟨ry4,rv4⟩,⟨ry5,rv5⟩,⟨ry6,rv6⟩,⟨ry7,rv7⟩,⟨ry8,rv8⟩,⟨ry9,rv9⟩,⟨ry10,rv10⟩,rz0,rz1,rz2,rz3,rz4,rz5,rz6,rz7,rz8,rz9,rz10⟩:=allBN HZ4.out
  go_wp2
  obtain⟨W9,e9⟩:∃ z,z=putN w4 (w.heap.size+2) n ⟨p1,p2,p3,p4,p5,p6,p7,p8,r1,r2,r3,r4,r5,r6,r7,r8⟩:=⟨_,rfl⟩
  have HB9:Hid (BT W9 (w.heap.size+2) n ⟨p1,p2,p3,p4,p5,p6,p7,p8,r1,r2,r3,r4,r5,r6,r7,r8⟩):=Lib.hid (by rw[e9];exact putN_BT HZ4.out)
  have HN9:=Lib.hid (show NX W9 _ n ⟨p1,p2,p3,p4,p5,p6,p7,p8,r1,r2,r3,r4,r5,r6,r7,r8⟩ y4 y7 y8 from by rw[e9];exact HN4.out.put HZ4.out)
  have HL9:Hid (Below w.heap.size w W9):=Lib.hid (by rw[e9];exact below_put HWB4.out (by omega))
  unfold putN at e9
  try dsimp only at e9
  rw[←e9]
  clear e9
  exact bodyPost_ret (results_cell_row2 Tryz.results173 _ _ ((w.heap.size+2)) 42 _ (0,0) _ rfl HB9.out Tryz.underlying42 rfl (by kernel_rfl)) rfl (by dsimp only;rw[HE.out.1,HE.out.2];exact⟨⟨_,_,_,_,rfl,HN9.out.lower (by omega)⟩,HL9.out⟩)
 case pos=>
  have SO:Hid (sendOk n p=true):=Lib.hid (by rw[HSO.out];exact decide_eq_true h60)
  have HE:=Lib.hid (sendPacket_yes OK.out SO.out)
  have h61:¬ 60<((rl n.srcs p.src).length:Int)+p.len:=by omega
  go_wp2_with fail
  refine wp_region_far (w0) (by kernel_rfl) (by kernel_rfl) bel ?_
  have hqc:=far_cell (w0)
  have hqf:=far_frozen (w0)
  repeat (first|go_big_quiet_step (first|(go_at_call 82;exact far_call (HNO.out _ (Far.h _)))|(go_at_call 168;exact far_call (HPO.out _)))|quiet_step (first|(go_at_call 82;exact far_call (HNO.out _ (Far.h _)))|(go_at_call 168;exact far_call (HPO.out _))))
  refine wpQuiet_nil ?_
  intro wq hbq
  clear hqc hqf
  obtain⟨hcq,hfq,hzq⟩:=bcell hbq
  try simp only[szs] at hzq
  have HR2:=Lib.hid (HR0.out.below hbq)
  have HZ2:Hid (BN wq (w.heap.size+2)):=Lib.hid (HZ0.out.below hbq)
  have HWB:Hid (Below w.heap.size w wq):=Lib.hid (bw_then HW0.out hbq)
  have x0q:=HX0.out.below hbq
  have p0q:=HP0.out.below hbq
  repeat (first|clear x0|clear x1|clear x2|clear x3|clear x4|clear x5|clear x6|clear x7|clear x8|clear x9|clear x10)
  repeat (first|clear p0|clear p1|clear p2|clear p3|clear p4)
  clear HR0 HZ0 HW0 HX0 HP0
  have box11:Box wq w.heap.size #[.int .i64 n.mesh.g.w,.int .i64 n.mesh.g.h,.slice a1 n.mesh.br.length c1,.slice a2 n.pa.length c2,.slice a3 n.pb.length c3,.slice a4 n.bufs.length c4,.slice a5 n.owners.length c5,.slice a6 n.turns.length c6,.slice (some ⟨b7,o7,none⟩) n.srcs.length c7,.slice a8 n.arrs.length c8,.int .i64 n.time]:=x0q
  obtain⟨x0,x1,x2,x3,x4,x5,x6,x7,x8,x9,x10⟩:=all11 box11
  clear box11
  have xl:=x0q.lt
  have p0:wq.cell? ⟨w.heap.size+1,0,none⟩=some (.int .i64 p.id):=p0q.get 0
  have p1:wq.cell? ⟨w.heap.size+1,1,none⟩=some (.int .i64 p.src):=p0q.get 1
  have p2:wq.cell? ⟨w.heap.size+1,2,none⟩=some (.int .i64 p.dst):=p0q.get 2
  have p3:wq.cell? ⟨w.heap.size+1,3,none⟩=some (.int .i64 p.cls):=p0q.get 3
  have p4:wq.cell? ⟨w.heap.size+1,4,none⟩=some (.int .i64 p.len):=p0q.get 4
  have pl:=p0q.lt
  clear x0q p0q
  repeat (first|clear hcq|clear hfq|clear hzq)


  go_wp2_with fail
  refine(spec_l16Send n p _ _ HR2.out OK.out SO.out).mono ?_
  rintro e w4 ⟨hg4,hb4⟩
  obtain⟨q4,y4,y7,y8,rfl,HN0⟩:=hg4
  obtain⟨p1,p2,p3,p4,p5,p6,p7,p8,r1,r2,r3,r4,r5,r6,r7,r8⟩:=q4
  dsimp only [netCells]
  have HN4:=Lib.hid HN0
  have HZ4:Hid (BN w4 (w.heap.size+2)):=Lib.hid (HZ2.out.below hb4)
  have HWB4:Hid (Below w.heap.size w w4):=Lib.hid (bw_then HWB.out hb4)
  have zz4:=bw_size hb4
  have zz5:=bw_size HWB.out
  clear HN0 hb4
  repeat (first|clear hcq|clear hfq|clear hzq|clear hbq)
  repeat (first|clear x0|clear x1|clear x2|clear x3|clear x4|clear x5|clear x6|clear x7|clear x8|clear x9|clear x10)
  repeat (first|clear p0|clear p1|clear p2|clear p3|clear p4)
  obtain⟨Y,eY⟩:∃ Y:Net,sendN n p=Y:=⟨_,rfl⟩
  rw[eY] at HN4 HE
  try rw[eY]
  clear eY

  obtain⟨⟨ry0,rv0⟩,⟨ry1,rv1⟩,⟨ry2,rv2⟩,⟨ry3,rv3⟩,⟨ry4,rv4⟩,⟨ry5,rv5⟩,⟨ry6,rv6⟩,⟨ry7,rv7⟩,⟨ry8,rv8⟩,⟨ry9,rv9⟩,⟨ry10,rv10⟩,rz0,rz1,rz2,rz3,rz4,rz5,rz6,rz7,rz8,rz9,rz10⟩:=allBN HZ4.out
  go_wp2
  obtain⟨W9,e9⟩:∃ z,z=putN w4 (w.heap.size+2) Y ⟨p1,p2,p3,p4,p5,p6,p7,p8,r1,r2,r3,r4,r5,r6,r7,r8⟩:=⟨_,rfl⟩
  have HB9:Hid (BT W9 (w.heap.size+2) Y ⟨p1,p2,p3,p4,p5,p6,p7,p8,r1,r2,r3,r4,r5,r6,r7,r8⟩):=Lib.hid (by rw[e9];exact putN_BT HZ4.out)
  have HN9:=Lib.hid (show NX W9 _ Y ⟨p1,p2,p3,p4,p5,p6,p7,p8,r1,r2,r3,r4,r5,r6,r7,r8⟩ y4 y7 y8 from by rw[e9];exact HN4.out.put HZ4.out)
  have HL9:Hid (Below w.heap.size w W9):=Lib.hid (by rw[e9];exact below_put HWB4.out (by omega))
  unfold putN at e9
  try dsimp only at e9
  rw[←e9]
  clear e9
  exact bodyPost_ret (results_cell_row2 Tryz.results173 _ _ ((w.heap.size+2)) 42 _ (0,0) _ rfl HB9.out Tryz.underlying42 rfl (by kernel_rfl)) rfl (by dsimp only;rw[HE.out.1,HE.out.2];exact⟨⟨_,_,_,_,rfl,HN9.out.lower (by omega)⟩,HL9.out⟩)
theorem sendAll_no1 {n:Net} {l:List Packet} (h:netOk n=false):sendAllN n l=n∧sendAllK n l=-1:=by
  have e:canAll n l=false:=by simp[canAll,h]
  exact⟨by unfold sendAllN;rw[e];rfl,by unfold sendAllK;rw[e];rfl⟩
theorem sendAll_no2 {n:Net} {l:List Packet} (h:¬ l.length≤40):sendAllN n l=n∧sendAllK n l=-1:=by
  have e:canAll n l=false:=by simp[canAll,h]
  exact⟨by unfold sendAllN;rw[e];rfl,by unfold sendAllK;rw[e];rfl⟩
theorem sendAll_yes {n:Net} {l:List Packet} (h:netOk n=true) (h2:l.length≤40):sendAllN n l=sndTo n l l.length∧sendAllK n l=cntTo n l l.length:=by
  have e:canAll n l=true:=by simp[canAll,h,h2]
  exact⟨by unfold sendAllN;rw[e];rfl,by unfold sendAllK;rw[e];rfl⟩
theorem cnt_yes {n:Net} {l:List Packet} {k:Nat} (h:sendOk (sndTo n l k) (rp l k)=true):cntTo n l (k+1)=cntTo n l k+1:=by simp only[cntTo];rw[if_pos h]
theorem cnt_no {n:Net} {l:List Packet} {k:Nat} (h:sendOk (sndTo n l k) (rp l k)=false):cntTo n l (k+1)=cntTo n l k:=by simp only[cntTo];rw[if_neg (by simp[h])];omega
set_option maxHeartbeats 16000000 in
set_option maxRecDepth 100000 in
theorem impl_SendAll (n:Net) (l:List Packet) (q:NA) (A:Option Addr) (c:Nat) (w:World) (hr:NetR 153 w n q) (hp:kP.C w A l.length l) (hl:l.length≤2097152) :
  Calls Tryz.prog 15 #[.agg (netCells n q),.slice A l.length c] w fun e w'=>GotNV w w' (sendAllN n l) (.int .i64 (sendAllK n l)) e∧Below w.heap.size w w':=by
 have HR:=Lib.hid hr
 have NBQ:=Lib.hid hr.nb
 have HP:=Lib.hid hp
 clear hp
 obtain⟨a1,a2,a3,a4,a5,a6,a7,a8,c1,c2,c3,c4,c5,c6,c7,c8⟩:=q
 clear hr
 dsimp only [netCells]
 go_enter Tryz.func15,Tryz.ntmps15
 go_wp2_with fail

 refine(impl_copyNet n _ _ (HR.out.below bel)).mono ?_
 rintro e w1 ⟨hg1,HBC⟩
 obtain⟨qq,v4,v7,v8,rfl,HN0⟩:=hg1
 obtain⟨b1,b2,b3,b4,b5,b6,b7,b8,d1,d2,d3,d4,d5,d6,d7,d8⟩:=qq
 dsimp only [netCells]
 have HN1:=Lib.hid HN0
 clear HN0
 obtain⟨w0,e0⟩:∃ z,z=w1.alloc (.cells #[.int .i64 n.mesh.g.w,.int .i64 n.mesh.g.h,.slice b1 n.mesh.br.length d1,.slice b2 n.pa.length d2,.slice b3 n.pb.length d3,.slice b4 n.bufs.length d4,.slice b5 n.owners.length d5,.slice b6 n.turns.length d6,.slice b7 n.srcs.length d7,.slice b8 n.arrs.length d8,.int .i64 n.time] 42):=⟨_,rfl⟩
 have hz0:w0.heap.size=w1.heap.size+1:=by rw[e0];simp only[szs]
 have hw01:Below w1.heap.size w1 w0:=by rw[e0];exact bw_alloc _ (bw_refl w1)
 obtain⟨bx,ebx⟩:∃ z,z=w1.heap.size:=⟨_,rfl⟩
 have HBT:Hid (BT w0 bx n ⟨b1,b2,b3,b4,b5,b6,b7,b8,d1,d2,d3,d4,d5,d6,d7,d8⟩):=Lib.hid (by rw[e0,ebx];exact blk_new w1 _)
 obtain⟨lo,elo⟩:∃ z,z=w.heap.size+2:=⟨_,rfl⟩
 have HN:Hid (NX w0 lo n ⟨b1,b2,b3,b4,b5,b6,b7,b8,d1,d2,d3,d4,d5,d6,d7,d8⟩ v4 v7 v8):=Lib.hid ((HN1.out.lower (by simp only[szs];omega)).below hw01)
 have HHB:Hid (Below w.heap.size w w0):=Lib.hid (bw_then (bw_then (bw_alloc _ (bw_alloc _ (bw_refl w))) HBC) hw01)
 have sw:w.heap.size+2≤w1.heap.size:=by have:=bw_size HBC;simp only[szs] at this;omega
 have HX0:Hid (Box w0 w.heap.size #[.int .i64 n.mesh.g.w,.int .i64 n.mesh.g.h,.slice a1 n.mesh.br.length c1,.slice a2 n.pa.length c2,.slice a3 n.pb.length c3,.slice a4 n.bufs.length c4,.slice a5 n.owners.length c5,.slice a6 n.turns.length c6,.slice a7 n.srcs.length c7,.slice a8 n.arrs.length c8,.int .i64 n.time]):=Lib.hid (((((Box.new w w.heap.size #[.int .i64 n.mesh.g.w,.int .i64 n.mesh.g.h,.slice a1 n.mesh.br.length c1,.slice a2 n.pa.length c2,.slice a3 n.pb.length c3,.slice a4 n.bufs.length c4,.slice a5 n.owners.length c5,.slice a6 n.turns.length c6,.slice a7 n.srcs.length c7,.slice a8 n.arrs.length c8,.int .i64 n.time] 42 rfl).alloc _).below HBC)).below hw01)
 have HZB:Hid (BN w0 (w.heap.size+1)):=Lib.hid (((BT.bn (by have hn:=BT.new (w.alloc (.cells #[.int .i64 n.mesh.g.w,.int .i64 n.mesh.g.h,.slice a1 n.mesh.br.length c1,.slice a2 n.pa.length c2,.slice a3 n.pb.length c3,.slice a4 n.bufs.length c4,.slice a5 n.owners.length c5,.slice a6 n.turns.length c6,.slice a7 n.srcs.length c7,.slice a8 n.arrs.length c8,.int .i64 n.time] 42)) ⟨⟨⟨0,0⟩,[]⟩,[],[],[],[],[],[],[],0⟩ ⟨none,none,none,none,none,none,none,none,0,0,0,0,0,0,0,0⟩;rw[World.size_alloc] at hn;exact hn)).below HBC).below hw01)
 have box11:Box (w1.alloc (.cells #[.int .i64 n.mesh.g.w,.int .i64 n.mesh.g.h,.slice b1 n.mesh.br.length d1,.slice b2 n.pa.length d2,.slice b3 n.pb.length d3,.slice b4 n.bufs.length d4,.slice b5 n.owners.length d5,.slice b6 n.turns.length d6,.slice b7 n.srcs.length d7,.slice b8 n.arrs.length d8,.int .i64 n.time] 42)) w.heap.size #[.int .i64 n.mesh.g.w,.int .i64 n.mesh.g.h,.slice a1 n.mesh.br.length c1,.slice a2 n.pa.length c2,.slice a3 n.pb.length c3,.slice a4 n.bufs.length c4,.slice a5 n.owners.length c5,.slice a6 n.turns.length c6,.slice a7 n.srcs.length c7,.slice a8 n.arrs.length c8,.int .i64 n.time]:=by rw[←e0];exact HX0.out
 obtain⟨xo0,xo1,xo2,xo3,xo4,xo5,xo6,xo7,xo8,xo9,xo10⟩:=all11 box11
 clear box11
 have xol:w.heap.size<(w1.alloc (.cells #[.int .i64 n.mesh.g.w,.int .i64 n.mesh.g.h,.slice b1 n.mesh.br.length d1,.slice b2 n.pa.length d2,.slice b3 n.pb.length d3,.slice b4 n.bufs.length d4,.slice b5 n.owners.length d5,.slice b6 n.turns.length d6,.slice b7 n.srcs.length d7,.slice b8 n.arrs.length d8,.int .i64 n.time] 42)).heap.size:=by rw[←e0];exact HX0.out.lt
 go_wp2_with fail
 rw[←e0]
 try rw[←ebx]
 repeat (first|clear xo0|clear xo1|clear xo2|clear xo3|clear xo4|clear xo5|clear xo6|clear xo7|clear xo8|clear xo9|clear xo10)
 clear xol
 have sb1:bx<w0.heap.size:=by omega
 have sb2:w.heap.size+2≤bx:=by omega
 have sl1:lo≤w.heap.size+2:=by omega
 have sl2:w.heap.size+2≤lo:=by omega
 have sl3:lo≤bx:=by omega
 have sl4:lo≤w0.heap.size:=by omega
 clear e0 ebx elo hz0 sw HN1 HBC hw01

 refine(impl_NetOk n _ _ (HR.out.below HHB.out)).mono ?_

 rintro e w2 ⟨rfl,Bb⟩
 have HN2:=Lib.hid (HN.out.below Bb)
 have HB2:=Lib.hid (HBT.out.below Bb)
 have HZ2:=Lib.hid (HZB.out.below Bb)
 have HX2:=Lib.hid (HX0.out.below Bb)
 have HL2:Hid (Below lo w0 w2):=Lib.hid (Below.cut Bb sl4)
 have zz2:=bw_size Bb
 have HWB:Hid (Below w.heap.size w w2):=Lib.hid (bw_then HHB.out Bb)
 clear Bb

 cases hk:netOk n
 ·have HE:=Lib.hid (sendAll_no1 (l:=l) hk)
  have box11:Box w2 bx #[.int .i64 n.mesh.g.w,.int .i64 n.mesh.g.h,.slice b1 n.mesh.br.length d1,.slice b2 n.pa.length d2,.slice b3 n.pb.length d3,.slice b4 n.bufs.length d4,.slice b5 n.owners.length d5,.slice b6 n.turns.length d6,.slice b7 n.srcs.length d7,.slice b8 n.arrs.length d8,.int .i64 n.time]:=HB2.out.box
  obtain⟨z0,z1,z2,z3,z4,z5,z6,z7,z8,z9,z10⟩:=all11 box11
  clear box11
  have zx:bx<w2.heap.size:=HB2.out.lt

  obtain⟨⟨ry0,rv0⟩,⟨ry1,rv1⟩,⟨ry2,rv2⟩,⟨ry3,rv3⟩,⟨ry4,rv4⟩,⟨ry5,rv5⟩,⟨ry6,rv6⟩,⟨ry7,rv7⟩,⟨ry8,rv8⟩,⟨ry9,rv9⟩,⟨ry10,rv10⟩,rz0,rz1,rz2,rz3,rz4,rz5,rz6,rz7,rz8,rz9,rz10⟩:=allBN HZ2.out
  go_wp2
  obtain⟨W9,e9⟩:∃ z,z=putN w2 (w.heap.size+1) n ⟨b1,b2,b3,b4,b5,b6,b7,b8,d1,d2,d3,d4,d5,d6,d7,d8⟩:=⟨_,rfl⟩
  have HB9:Hid (BT W9 (w.heap.size+1) n ⟨b1,b2,b3,b4,b5,b6,b7,b8,d1,d2,d3,d4,d5,d6,d7,d8⟩):=Lib.hid (by rw[e9];exact putN_BT HZ2.out)
  have HN9:=Lib.hid (show NX W9 _ n ⟨b1,b2,b3,b4,b5,b6,b7,b8,d1,d2,d3,d4,d5,d6,d7,d8⟩ v4 v7 v8 from by rw[e9];exact HN2.out.put HZ2.out)
  have HL9:Hid (Below w.heap.size w W9):=Lib.hid (by rw[e9];exact below_put HWB.out (by omega))
  unfold putN at e9
  try dsimp only at e9
  rw[←e9]
  clear e9
  exact bodyPost_ret (results_cell_row2 Tryz.results15 _ _ ((w.heap.size+1)) 42 _ (0,0) _ rfl HB9.out Tryz.underlying42 rfl (by kernel_rfl)) rfl (by dsimp only;rw[HE.out.1,HE.out.2];exact⟨⟨_,_,_,_,rfl,HN9.out.lower (by omega)⟩,HL9.out⟩)
 by_cases h40:l.length≤40
 case neg=>
  have HE:=Lib.hid (sendAll_no2 (n:=n) h40)
  have h41:(40:Int)<(l.length:Int):=by omega
  clear h40
  have box11:Box w2 bx #[.int .i64 n.mesh.g.w,.int .i64 n.mesh.g.h,.slice b1 n.mesh.br.length d1,.slice b2 n.pa.length d2,.slice b3 n.pb.length d3,.slice b4 n.bufs.length d4,.slice b5 n.owners.length d5,.slice b6 n.turns.length d6,.slice b7 n.srcs.length d7,.slice b8 n.arrs.length d8,.int .i64 n.time]:=HB2.out.box
  obtain⟨z0,z1,z2,z3,z4,z5,z6,z7,z8,z9,z10⟩:=all11 box11
  clear box11
  have zx:bx<w2.heap.size:=HB2.out.lt

  obtain⟨⟨ry0,rv0⟩,⟨ry1,rv1⟩,⟨ry2,rv2⟩,⟨ry3,rv3⟩,⟨ry4,rv4⟩,⟨ry5,rv5⟩,⟨ry6,rv6⟩,⟨ry7,rv7⟩,⟨ry8,rv8⟩,⟨ry9,rv9⟩,⟨ry10,rv10⟩,rz0,rz1,rz2,rz3,rz4,rz5,rz6,rz7,rz8,rz9,rz10⟩:=allBN HZ2.out
  go_wp2
  obtain⟨W9,e9⟩:∃ z,z=putN w2 (w.heap.size+1) n ⟨b1,b2,b3,b4,b5,b6,b7,b8,d1,d2,d3,d4,d5,d6,d7,d8⟩:=⟨_,rfl⟩
  have HB9:Hid (BT W9 (w.heap.size+1) n ⟨b1,b2,b3,b4,b5,b6,b7,b8,d1,d2,d3,d4,d5,d6,d7,d8⟩):=Lib.hid (by rw[e9];exact putN_BT HZ2.out)
  have HN9:=Lib.hid (show NX W9 _ n ⟨b1,b2,b3,b4,b5,b6,b7,b8,d1,d2,d3,d4,d5,d6,d7,d8⟩ v4 v7 v8 from by rw[e9];exact HN2.out.put HZ2.out)
  have HL9:Hid (Below w.heap.size w W9):=Lib.hid (by rw[e9];exact below_put HWB.out (by omega))
  unfold putN at e9
  try dsimp only at e9
  rw[←e9]
  clear e9
  exact bodyPost_ret (results_cell_row2 Tryz.results15 _ _ ((w.heap.size+1)) 42 _ (0,0) _ rfl HB9.out Tryz.underlying42 rfl (by kernel_rfl)) rfl (by dsimp only;rw[HE.out.1,HE.out.2];exact⟨⟨_,_,_,_,rfl,HN9.out.lower (by omega)⟩,HL9.out⟩)
 case pos=>
  have HE:=Lib.hid (sendAll_yes hk h40)
  have HOK:Hid (∀ k:Nat,netOk (sndTo n l k)=true):=Lib.hid (sndTo_ok hk l)
  have HNB:Hid (∀ k:Nat,NB (sndTo n l k)):=Lib.hid (sndTo_nb NBQ.out hk l)
  have h41:¬ (40:Int)<(l.length:Int):=by omega
  clear hk
  go_wp2_with fail
  go_loopw [7,23] (fun v i wr=>∃ (k:Nat) (q':NA) (u4 u7 u8:List Value),i=.int .i64 k∧v=.int .i64 (cntTo n l k)∧k≤l.length∧Hid (NX wr lo (sndTo n l k) q' u4 u7 u8)∧Hid (BT wr bx (sndTo n l k) q')∧Hid (Below lo w0 wr)) (fun _ i _=>l.length - (intOf i).toNat)
  case atStart=>exact⟨0,_,v4,v7,v8,rfl,rfl,Nat.zero_le _,Lib.hid HN2.out,Lib.hid HB2.out,Lib.hid HL2.out⟩
  case round=>
   clear HN2 HB2 HL2 HZ2 HX2 HWB
   obtain⟨k,q',u4,u7,u8,rfl,rfl,hk,HNk,HBk,HLk⟩:=hrel
   obtain⟨wk,ewk⟩:∃ z,z=wr:=⟨_,rfl⟩
   subst ewk
   have hcr:=cntTo_range n l k
   by_cases hlt:k<l.length
   ·have HWBk:Hid (Below w.heap.size w wk):=Lib.hid (bw_trans HHB.out HLk.out (by omega))
    have hpk:=Kd.C_below HP.out HWBk.out
    obtain⟨pb,po,eA,hpb,p0,p1,p2,p3,p4⟩:=rdP_at hpk k hlt
    subst eA
    have zzk:=HLk.out.size
    have i0:(k:Int)<(l.length:Int):=by omega
    have k0:(0:Int)≤(k:Int):=by omega
    obtain⟨P,hP⟩:∃ P,rp l k=P:=⟨_,rfl⟩
    rw[hP] at p0 p1 p2 p3 p4
    have HP9:=Lib.hid hP
    obtain⟨w5,e5⟩:∃ z,z=wk.alloc (.cells #[.int .i64 P.id,.int .i64 P.src,.int .i64 P.dst,.int .i64 P.cls,.int .i64 P.len] 38):=⟨_,rfl⟩
    have hb5:Below wk.heap.size wk w5:=by rw[e5];exact bw_alloc _ (bw_refl wk)
    have HN5:=Lib.hid (HNk.out.below hb5)
    have HB5:=Lib.hid (HBk.out.below hb5)
    have HL5:Hid (Below lo w0 w5):=Lib.hid (below_then HLk.out (by omega) hb5)
    have z5:=bw_size hb5
    clear hpk hP hb5
    go_wp2_with fail
    rw[←e5]
    clear e5
    refine(impl_send (sndTo n l k) P q' bx lo u4 u7 u8 _ HN5.out HB5.out (HNB.out k) (HOK.out k) sl3 (by omega)).mono ?_
    rintro e w3 ⟨rfl,⟨q3,y4,y7,y8,hn3,hb3⟩,hl3⟩
    have HN3:=Lib.hid hn3
    have HB3:=Lib.hid hb3
    have HL3:Hid (Below lo w0 w3):=Lib.hid (bw_trans HL5.out hl3 (Nat.le_refl _))
    have HS3:Hid (sndTo n l (k+1)=sndN (sndTo n l k) P):=Lib.hid (by rw[←HP9.out];rfl)
    have HC1:Hid (sendOk (sndTo n l k) P=true→cntTo n l (k+1)=cntTo n l k+1):=Lib.hid (fun h=>cnt_yes (by rw[HP9.out];exact h))
    have HC2:Hid (sendOk (sndTo n l k) P=false→cntTo n l (k+1)=cntTo n l k):=Lib.hid (fun h=>cnt_no (by rw[HP9.out];exact h))
    clear hn3 hb3 hl3 p0 p1 p2 p3 p4
    cases hs:sendOk (sndTo n l k) P
    ·have HC:=Lib.hid (HC2.out hs)
     go_wp2
     go_roundw
     case rel=>exact⟨k+1,q3,y4,y7,y8,by go_num,by rw[HC.out],by omega,Lib.hid (by rw[HS3.out];exact HN3.out),Lib.hid (by rw[HS3.out];exact HB3.out),Lib.hid HL3.out⟩
     case measure=>simp[intOf];omega
    ·have HC:=Lib.hid (HC1.out hs)
     go_wp2
     go_roundw
     case rel=>exact⟨k+1,q3,y4,y7,y8,by go_num,by rw[HC.out],by omega,Lib.hid (by rw[HS3.out];exact HN3.out),Lib.hid (by rw[HS3.out];exact HB3.out),Lib.hid HL3.out⟩
     case measure=>simp[intOf];omega
   ·obtain rfl:k=l.length:=by omega
    obtain⟨p1,p2,p3,p4,p5,p6,p7,p8,r1,r2,r3,r4,r5,r6,r7,r8⟩:=q'
    have HZk:Hid (BN wk (w.heap.size+1)):=Lib.hid (HZB.out.low HLk.out (by omega))
    have HWBk:Hid (Below w.heap.size w wk):=Lib.hid (bw_trans HHB.out HLk.out (by omega))
    have zzk:=HLk.out.size
    obtain⟨X,hX⟩:∃ X,sndTo n l l.length=X:=⟨_,rfl⟩
    obtain⟨K,hK⟩:∃ K,cntTo n l l.length=K:=⟨_,rfl⟩
    rw[hX] at HNk HBk HE
    rw[hK] at HE
    try rw[hK]
    clear hX hK hcr
    have box11:Box wk bx #[.int .i64 X.mesh.g.w,.int .i64 X.mesh.g.h,.slice p1 X.mesh.br.length r1,.slice p2 X.pa.length r2,.slice p3 X.pb.length r3,.slice p4 X.bufs.length r4,.slice p5 X.owners.length r5,.slice p6 X.turns.length r6,.slice p7 X.srcs.length r7,.slice p8 X.arrs.length r8,.int .i64 X.time]:=HBk.out.box
    obtain⟨z0,z1,z2,z3,z4,z5,z6,z7,z8,z9,z10⟩:=all11 box11
    clear box11
    have zx:bx<wk.heap.size:=HBk.out.lt

    obtain⟨⟨ry0,rv0⟩,⟨ry1,rv1⟩,⟨ry2,rv2⟩,⟨ry3,rv3⟩,⟨ry4,rv4⟩,⟨ry5,rv5⟩,⟨ry6,rv6⟩,⟨ry7,rv7⟩,⟨ry8,rv8⟩,⟨ry9,rv9⟩,⟨ry10,rv10⟩,rz0,rz1,rz2,rz3,rz4,rz5,rz6,rz7,rz8,rz9,rz10⟩:=allBN HZk.out
    go_wp2
    obtain⟨W9,e9⟩:∃ z,z=putN wk (w.heap.size+1) X ⟨p1,p2,p3,p4,p5,p6,p7,p8,r1,r2,r3,r4,r5,r6,r7,r8⟩:=⟨_,rfl⟩
    have HB9:Hid (BT W9 (w.heap.size+1) X ⟨p1,p2,p3,p4,p5,p6,p7,p8,r1,r2,r3,r4,r5,r6,r7,r8⟩):=Lib.hid (by rw[e9];exact putN_BT HZk.out)
    have HN9:=Lib.hid (show NX W9 _ X ⟨p1,p2,p3,p4,p5,p6,p7,p8,r1,r2,r3,r4,r5,r6,r7,r8⟩ u4 u7 u8 from by rw[e9];exact HNk.out.put HZk.out)
    have HL9:Hid (Below w.heap.size w W9):=Lib.hid (by rw[e9];exact below_put HWBk.out (by omega))
    unfold putN at e9
    try dsimp only at e9
    rw[←e9]
    clear e9
    exact bodyPost_ret (results_cell_row2 Tryz.results15 _ _ ((w.heap.size+1)) 42 _ (0,0) _ rfl HB9.out Tryz.underlying42 rfl (by kernel_rfl)) rfl (by dsimp only;rw[HE.out.1,HE.out.2];exact⟨⟨_,_,_,_,rfl,HN9.out.lower (by omega)⟩,HL9.out⟩)
end Go.Proofs.YtodbglncccgdbaaGreat
