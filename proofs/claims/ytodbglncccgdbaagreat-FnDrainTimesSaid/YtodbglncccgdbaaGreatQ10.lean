/- Lemmas for laws of this seat, for all inputs: NetOkI ReqI ReqJ. -/
import Derived.Test.YtodbglncccgdbaaGreatQ8
import Derived.Test.YtodbglncccgdbaaGreatQ1
import Derived.IntWalk
set_option linter.unusedVariables false
set_option linter.unusedSimpArgs false
namespace Go.Proofs.YtodbglncccgdbaaGreat
open Go.RowKit Go.Proofs.YtodbglncccgdbaaGreatW.PrintWords
open NoC
theorem bufOk_1 {g:Grid} {i:Nat} {l:List Flit} (h:3<l.length):bufOk g i l=false:=by
  simp[bufOk];omega
theorem bufOk_2 {g:Grid} {i:Nat} {l:List Flit} (h:¬ (clsOnly l ((i % 2:Nat):Int)).length=l.length):bufOk g i l=false:=by
  have h2:=clsOnly_len l ((i % 2:Nat):Int)
  rw[beq_eq_false_iff_ne.2 h] at h2
  simp only[bufOk,←h2,Bool.and_false,Bool.false_and]
theorem bufOk_3 {g:Grid} {i:Nat} {l:List Flit} (h:areFl g l=false):bufOk g i l=false:=by simp[bufOk,h]
theorem bufOk_4 {g:Grid} {i:Nat} {l:List Flit} (h1:¬ 3<l.length) (h2:(clsOnly l ((i % 2:Nat):Int)).length=l.length) (h3:areFl g l=true):bufOk g i l=true:=by
  have h4:=clsOnly_len l ((i % 2:Nat):Int)
  rw[beq_iff_eq.2 h2] at h4
  simp only[bufOk,←h4,h3,Bool.and_true,decide_eq_true_eq]
  omega
theorem srcOk_1 {g:Grid} {l:List Flit} (h:60<l.length):srcOk g l=false:=by
  simp[srcOk];omega
theorem srcOk_2 {g:Grid} {l:List Flit} (h:areFl g l=false):srcOk g l=false:=by simp[srcOk,h]
theorem srcOk_3 {g:Grid} {l:List Flit} (h1:¬ 60<l.length) (h:areFl g l=true):srcOk g l=true:=by
  simp only[srcOk,h,Bool.and_true,decide_eq_true_eq]
  omega
theorem mod2 (k:Nat):((k:Int) % 2)=((k % 2:Nat):Int):=by omega
theorem netOk_eq {n:Net} (hc:classesOk n.mesh n.pa n.pb=true) (hs:shapeOk n=true) (hb:∀ j:Nat,j<n.bufs.length→bufOk n.mesh.g j (rl n.bufs j)=true) (hr:∀ j:Nat,j<n.srcs.length→srcOk n.mesh.g (rl n.srcs j)=true) :
    netOk n=(allI n.owners.length (fun i=>inside (ri n.owners i) (-1) 4) && allI n.turns.length (fun i=>inside (ri n.turns i) 0 9) && inside n.time 0 1000000):=by
  simp only[netOk,hc,hs,allI_true hb,allI_true hr,Bool.true_and]
theorem shape_mk {n:Net} (s1:(n.bufs.length:Int)=10*nodeCount n.mesh.g) (s2:(n.owners.length:Int)=10*nodeCount n.mesh.g) (s3:(n.turns.length:Int)=5*nodeCount n.mesh.g) (s4:(n.srcs.length:Int)=nodeCount n.mesh.g) (s5:(n.arrs.length:Int)=nodeCount n.mesh.g):shapeOk n=true:=by
  simp only[shapeOk,s1,s2,s3,s4,s5,decide_true,Bool.and_true]
theorem netOk_no1 {n:Net} (h:classesOk n.mesh n.pa n.pb=false):netOk n=false:=by simp[netOk,h]
theorem netOk_no2 {n:Net} (h:shapeOk n=false):netOk n=false:=by simp[netOk,h]
theorem netOk_no3 {n:Net} (k:Nat) (hk:k<n.bufs.length) (h:bufOk n.mesh.g k (rl n.bufs k)=false):netOk n=false:=by simp[netOk,allI_false (p:=fun (i:Nat)=>bufOk n.mesh.g i (rl n.bufs i)) k hk h]
theorem netOk_no4 {n:Net} (k:Nat) (hk:k<n.srcs.length) (h:srcOk n.mesh.g (rl n.srcs k)=false):netOk n=false:=by simp[netOk,allI_false (p:=fun (i:Nat)=>srcOk n.mesh.g (rl n.srcs i)) k hk h]
theorem shape_no1 {n:Net} (h:¬ (n.bufs.length:Int)=10*nodeCount n.mesh.g):shapeOk n=false:=by simp[shapeOk,h]
theorem shape_no2 {n:Net} (h:¬ (n.owners.length:Int)=10*nodeCount n.mesh.g):shapeOk n=false:=by simp[shapeOk,h]
theorem shape_no3 {n:Net} (h:¬ (n.turns.length:Int)=5*nodeCount n.mesh.g):shapeOk n=false:=by simp[shapeOk,h]
theorem shape_no4 {n:Net} (h:¬ (n.srcs.length:Int)=nodeCount n.mesh.g):shapeOk n=false:=by simp[shapeOk,h]
theorem shape_no5 {n:Net} (h:¬ (n.arrs.length:Int)=nodeCount n.mesh.g):shapeOk n=false:=by simp[shapeOk,h]

set_option maxHeartbeats 8000000 in
set_option maxRecDepth 100000 in
theorem impl_NetOk (n:Net) (q:NA) (w:World) (hr:NetR 153 w n q):Calls Tryz.prog 55 #[.agg (netCells n q)] w fun e w'=>e=.returned (.bool (netOk n))∧Below w.heap.size w w':=by
 obtain⟨a1,a2,a3,a4,a5,a6,a7,a8,c1,c2,c3,c4,c5,c6,c7,c8⟩:=q;obtain⟨Rbr,Rpa,Rpb,Rbu,Row,Rtu,Rso,Rar,L1,L2,L3,L4,L5,L6,L7,L8,L9,L10,L11⟩:=hr;have M9:=Lib.hid L9;have M10:=Lib.hid L10;have M11:=Lib.hid L11;clear L9 L10 L11;dsimp only [netCells] at *
 obtain⟨n0,n1⟩:=count_le n.mesh.g
 cases hc:classesOk n.mesh n.pa n.pb
 ·have HC:=Lib.hid hc
  go_enter Tryz.func55,Tryz.ntmps55
  go_wp2_with (first|(go_at_call 51;refine(impl_NodeCount n.mesh.g _).mono ?_;rintro e w1 ⟨rfl,Ba⟩;obtain⟨Ca,Fa,Za⟩:=bcell Ba;(try simp only[szs] at Za);have Bb:=far2;obtain⟨Cb,Fb,Zb⟩:=bcell Bb;(try simp only[szs] at Zb);try (first|obtain⟨Ya,Yb,Yc,Yd⟩:=lts4 Zb|obtain⟨Ya,Yb,Yc⟩:=lts3 Zb|obtain⟨Ya,Yb⟩:=lts2 Zb|have Ya:=lts1 Zb);have hb9:=Ba)|(go_at_call 42;refine(impl_ClassesOk n.mesh n.pa n.pb a1 a2 a3 _ _ _ _ (by exact Kd.C_below Rbr bel) L1 (by exact Kd.C_below Rpa bel) L2 (by exact Kd.C_below Rpb bel) L3).mono ?_;rintro e w1 ⟨rfl,Ba⟩;obtain⟨Ca,Fa,Za⟩:=bcell Ba;(try simp only[szs] at Za);have Bb:=far2;obtain⟨Cb,Fb,Zb⟩:=bcell Bb;(try simp only[szs] at Zb);try (first|obtain⟨Ya,Yb,Yc,Yd⟩:=lts4 Zb|obtain⟨Ya,Yb,Yc⟩:=lts3 Zb|obtain⟨Ya,Yb⟩:=lts2 Zb|have Ya:=lts1 Zb);have hb9:=Ba))
  go_ret
  exact⟨ret_bool (netOk_no1 HC.out).symm,bel⟩
 by_cases s0:(n.bufs.length:Int)=10*nodeCount n.mesh.g
 case neg=>
  have e0:((n.bufs.length:Int) != 10*nodeCount n.mesh.g)=true:=bne_iff_ne.2 s0
  have S0:=Lib.hid s0
  clear s0
  go_enter Tryz.func55,Tryz.ntmps55
  go_wp2_with (first|(go_at_call 51;refine(impl_NodeCount n.mesh.g _).mono ?_;rintro e w1 ⟨rfl,Ba⟩;obtain⟨Ca,Fa,Za⟩:=bcell Ba;(try simp only[szs] at Za);have Bb:=far2;obtain⟨Cb,Fb,Zb⟩:=bcell Bb;(try simp only[szs] at Zb);try (first|obtain⟨Ya,Yb,Yc,Yd⟩:=lts4 Zb|obtain⟨Ya,Yb,Yc⟩:=lts3 Zb|obtain⟨Ya,Yb⟩:=lts2 Zb|have Ya:=lts1 Zb);have hb9:=Ba)|(go_at_call 42;refine(impl_ClassesOk n.mesh n.pa n.pb a1 a2 a3 _ _ _ _ (by exact Kd.C_below Rbr bel) L1 (by exact Kd.C_below Rpa bel) L2 (by exact Kd.C_below Rpb bel) L3).mono ?_;rintro e w1 ⟨rfl,Ba⟩;obtain⟨Ca,Fa,Za⟩:=bcell Ba;(try simp only[szs] at Za);have Bb:=far2;obtain⟨Cb,Fb,Zb⟩:=bcell Bb;(try simp only[szs] at Zb);try (first|obtain⟨Ya,Yb,Yc,Yd⟩:=lts4 Zb|obtain⟨Ya,Yb,Yc⟩:=lts3 Zb|obtain⟨Ya,Yb⟩:=lts2 Zb|have Ya:=lts1 Zb);have hb9:=Ba))
  go_ret
  exact⟨ret_bool (netOk_no2 (shape_no1 S0.out)).symm,bel⟩
 have e0:((n.bufs.length:Int) != 10*nodeCount n.mesh.g)=false:=bne_eq_false_iff_eq.2 s0
 have S0:=Lib.hid s0
 have u0:(n.bufs.length:Int)≤10*nodeCount n.mesh.g:=by omega
 have v0:10*nodeCount n.mesh.g≤(n.bufs.length:Int):=by omega
 clear s0
 by_cases s1:(n.owners.length:Int)=10*nodeCount n.mesh.g
 case neg=>
  have e1:((n.owners.length:Int) != 10*nodeCount n.mesh.g)=true:=bne_iff_ne.2 s1
  have S1:=Lib.hid s1
  clear s1
  go_enter Tryz.func55,Tryz.ntmps55
  go_wp2_with (first|(go_at_call 51;refine(impl_NodeCount n.mesh.g _).mono ?_;rintro e w1 ⟨rfl,Ba⟩;obtain⟨Ca,Fa,Za⟩:=bcell Ba;(try simp only[szs] at Za);have Bb:=far2;obtain⟨Cb,Fb,Zb⟩:=bcell Bb;(try simp only[szs] at Zb);try (first|obtain⟨Ya,Yb,Yc,Yd⟩:=lts4 Zb|obtain⟨Ya,Yb,Yc⟩:=lts3 Zb|obtain⟨Ya,Yb⟩:=lts2 Zb|have Ya:=lts1 Zb);have hb9:=Ba)|(go_at_call 42;refine(impl_ClassesOk n.mesh n.pa n.pb a1 a2 a3 _ _ _ _ (by exact Kd.C_below Rbr bel) L1 (by exact Kd.C_below Rpa bel) L2 (by exact Kd.C_below Rpb bel) L3).mono ?_;rintro e w1 ⟨rfl,Ba⟩;obtain⟨Ca,Fa,Za⟩:=bcell Ba;(try simp only[szs] at Za);have Bb:=far2;obtain⟨Cb,Fb,Zb⟩:=bcell Bb;(try simp only[szs] at Zb);try (first|obtain⟨Ya,Yb,Yc,Yd⟩:=lts4 Zb|obtain⟨Ya,Yb,Yc⟩:=lts3 Zb|obtain⟨Ya,Yb⟩:=lts2 Zb|have Ya:=lts1 Zb);have hb9:=Ba))
  go_ret
  exact⟨ret_bool (netOk_no2 (shape_no2 S1.out)).symm,bel⟩
 have e1:((n.owners.length:Int) != 10*nodeCount n.mesh.g)=false:=bne_eq_false_iff_eq.2 s1
 have S1:=Lib.hid s1
 have u1:(n.owners.length:Int)≤10*nodeCount n.mesh.g:=by omega
 have v1:10*nodeCount n.mesh.g≤(n.owners.length:Int):=by omega
 clear s1
 by_cases s2:(n.turns.length:Int)=5*nodeCount n.mesh.g
 case neg=>
  have e2:((n.turns.length:Int) != 5*nodeCount n.mesh.g)=true:=bne_iff_ne.2 s2
  have S2:=Lib.hid s2
  clear s2
  go_enter Tryz.func55,Tryz.ntmps55
  go_wp2_with (first|(go_at_call 51;refine(impl_NodeCount n.mesh.g _).mono ?_;rintro e w1 ⟨rfl,Ba⟩;obtain⟨Ca,Fa,Za⟩:=bcell Ba;(try simp only[szs] at Za);have Bb:=far2;obtain⟨Cb,Fb,Zb⟩:=bcell Bb;(try simp only[szs] at Zb);try (first|obtain⟨Ya,Yb,Yc,Yd⟩:=lts4 Zb|obtain⟨Ya,Yb,Yc⟩:=lts3 Zb|obtain⟨Ya,Yb⟩:=lts2 Zb|have Ya:=lts1 Zb);have hb9:=Ba)|(go_at_call 42;refine(impl_ClassesOk n.mesh n.pa n.pb a1 a2 a3 _ _ _ _ (by exact Kd.C_below Rbr bel) L1 (by exact Kd.C_below Rpa bel) L2 (by exact Kd.C_below Rpb bel) L3).mono ?_;rintro e w1 ⟨rfl,Ba⟩;obtain⟨Ca,Fa,Za⟩:=bcell Ba;(try simp only[szs] at Za);have Bb:=far2;obtain⟨Cb,Fb,Zb⟩:=bcell Bb;(try simp only[szs] at Zb);try (first|obtain⟨Ya,Yb,Yc,Yd⟩:=lts4 Zb|obtain⟨Ya,Yb,Yc⟩:=lts3 Zb|obtain⟨Ya,Yb⟩:=lts2 Zb|have Ya:=lts1 Zb);have hb9:=Ba))
  go_ret
  exact⟨ret_bool (netOk_no2 (shape_no3 S2.out)).symm,bel⟩
 have e2:((n.turns.length:Int) != 5*nodeCount n.mesh.g)=false:=bne_eq_false_iff_eq.2 s2
 have S2:=Lib.hid s2
 have u2:(n.turns.length:Int)≤5*nodeCount n.mesh.g:=by omega
 have v2:5*nodeCount n.mesh.g≤(n.turns.length:Int):=by omega
 clear s2
 by_cases s3:(n.srcs.length:Int)=nodeCount n.mesh.g
 case neg=>
  have e3:((n.srcs.length:Int) != nodeCount n.mesh.g)=true:=bne_iff_ne.2 s3
  have S3:=Lib.hid s3
  clear s3
  go_enter Tryz.func55,Tryz.ntmps55
  go_wp2_with (first|(go_at_call 51;refine(impl_NodeCount n.mesh.g _).mono ?_;rintro e w1 ⟨rfl,Ba⟩;obtain⟨Ca,Fa,Za⟩:=bcell Ba;(try simp only[szs] at Za);have Bb:=far2;obtain⟨Cb,Fb,Zb⟩:=bcell Bb;(try simp only[szs] at Zb);try (first|obtain⟨Ya,Yb,Yc,Yd⟩:=lts4 Zb|obtain⟨Ya,Yb,Yc⟩:=lts3 Zb|obtain⟨Ya,Yb⟩:=lts2 Zb|have Ya:=lts1 Zb);have hb9:=Ba)|(go_at_call 42;refine(impl_ClassesOk n.mesh n.pa n.pb a1 a2 a3 _ _ _ _ (by exact Kd.C_below Rbr bel) L1 (by exact Kd.C_below Rpa bel) L2 (by exact Kd.C_below Rpb bel) L3).mono ?_;rintro e w1 ⟨rfl,Ba⟩;obtain⟨Ca,Fa,Za⟩:=bcell Ba;(try simp only[szs] at Za);have Bb:=far2;obtain⟨Cb,Fb,Zb⟩:=bcell Bb;(try simp only[szs] at Zb);try (first|obtain⟨Ya,Yb,Yc,Yd⟩:=lts4 Zb|obtain⟨Ya,Yb,Yc⟩:=lts3 Zb|obtain⟨Ya,Yb⟩:=lts2 Zb|have Ya:=lts1 Zb);have hb9:=Ba))
  go_ret
  exact⟨ret_bool (netOk_no2 (shape_no4 S3.out)).symm,bel⟩
 have e3:((n.srcs.length:Int) != nodeCount n.mesh.g)=false:=bne_eq_false_iff_eq.2 s3
 have S3:=Lib.hid s3
 have u3:(n.srcs.length:Int)≤nodeCount n.mesh.g:=by omega
 have v3:nodeCount n.mesh.g≤(n.srcs.length:Int):=by omega
 clear s3
 by_cases s4:(n.arrs.length:Int)=nodeCount n.mesh.g
 case neg=>
  have e4:((n.arrs.length:Int) != nodeCount n.mesh.g)=true:=bne_iff_ne.2 s4
  have S4:=Lib.hid s4
  clear s4
  go_enter Tryz.func55,Tryz.ntmps55
  go_wp2_with (first|(go_at_call 51;refine(impl_NodeCount n.mesh.g _).mono ?_;rintro e w1 ⟨rfl,Ba⟩;obtain⟨Ca,Fa,Za⟩:=bcell Ba;(try simp only[szs] at Za);have Bb:=far2;obtain⟨Cb,Fb,Zb⟩:=bcell Bb;(try simp only[szs] at Zb);try (first|obtain⟨Ya,Yb,Yc,Yd⟩:=lts4 Zb|obtain⟨Ya,Yb,Yc⟩:=lts3 Zb|obtain⟨Ya,Yb⟩:=lts2 Zb|have Ya:=lts1 Zb);have hb9:=Ba)|(go_at_call 42;refine(impl_ClassesOk n.mesh n.pa n.pb a1 a2 a3 _ _ _ _ (by exact Kd.C_below Rbr bel) L1 (by exact Kd.C_below Rpa bel) L2 (by exact Kd.C_below Rpb bel) L3).mono ?_;rintro e w1 ⟨rfl,Ba⟩;obtain⟨Ca,Fa,Za⟩:=bcell Ba;(try simp only[szs] at Za);have Bb:=far2;obtain⟨Cb,Fb,Zb⟩:=bcell Bb;(try simp only[szs] at Zb);try (first|obtain⟨Ya,Yb,Yc,Yd⟩:=lts4 Zb|obtain⟨Ya,Yb,Yc⟩:=lts3 Zb|obtain⟨Ya,Yb⟩:=lts2 Zb|have Ya:=lts1 Zb);have hb9:=Ba))
  go_ret
  exact⟨ret_bool (netOk_no2 (shape_no5 S4.out)).symm,bel⟩
 have e4:((n.arrs.length:Int) != nodeCount n.mesh.g)=false:=bne_eq_false_iff_eq.2 s4
 have S4:=Lib.hid s4
 have u4:(n.arrs.length:Int)≤nodeCount n.mesh.g:=by omega
 have v4:nodeCount n.mesh.g≤(n.arrs.length:Int):=by omega
 clear s4
 have HSH:=Lib.hid (shape_mk S0.out S1.out S2.out S3.out S4.out)
 have HC:=Lib.hid hc
 go_enter Tryz.func55,Tryz.ntmps55
 go_wp2_with (first|(go_at_call 51;refine(impl_NodeCount n.mesh.g _).mono ?_;rintro e w1 ⟨rfl,Ba⟩;obtain⟨Ca,Fa,Za⟩:=bcell Ba;(try simp only[szs] at Za);have Bb:=far2;obtain⟨Cb,Fb,Zb⟩:=bcell Bb;(try simp only[szs] at Zb);try (first|obtain⟨Ya,Yb,Yc,Yd⟩:=lts4 Zb|obtain⟨Ya,Yb,Yc⟩:=lts3 Zb|obtain⟨Ya,Yb⟩:=lts2 Zb|have Ya:=lts1 Zb);have hb9:=Ba)|(go_at_call 42;refine(impl_ClassesOk n.mesh n.pa n.pb a1 a2 a3 _ _ _ _ (by exact Kd.C_below Rbr bel) L1 (by exact Kd.C_below Rpa bel) L2 (by exact Kd.C_below Rpb bel) L3).mono ?_;rintro e w1 ⟨rfl,Ba⟩;obtain⟨Ca,Fa,Za⟩:=bcell Ba;(try simp only[szs] at Za);have Bb:=far2;obtain⟨Cb,Fb,Zb⟩:=bcell Bb;(try simp only[szs] at Zb);try (first|obtain⟨Ya,Yb,Yc,Yd⟩:=lts4 Zb|obtain⟨Ya,Yb,Yc⟩:=lts3 Zb|obtain⟨Ya,Yb⟩:=lts2 Zb|have Ya:=lts1 Zb);have hb9:=Ba))
 go_loopw [59] (fun i wr=>∃ k:Nat,i=.int .i64 k∧k≤n.bufs.length∧Hid (∀ j:Nat,j<k→bufOk n.mesh.g j (rl n.bufs j)=true)∧Below (w.alloc (.cells #[.int .i64 n.mesh.g.w,.int .i64 n.mesh.g.h,.slice a1 n.mesh.br.length c1,.slice a2 n.pa.length c2,.slice a3 n.pb.length c3,.slice a4 n.bufs.length c4,.slice a5 n.owners.length c5,.slice a6 n.turns.length c6,.slice a7 n.srcs.length c7,.slice a8 n.arrs.length c8,.int .i64 n.time] 42)).heap.size (w.alloc (.cells #[.int .i64 n.mesh.g.w,.int .i64 n.mesh.g.h,.slice a1 n.mesh.br.length c1,.slice a2 n.pa.length c2,.slice a3 n.pb.length c3,.slice a4 n.bufs.length c4,.slice a5 n.owners.length c5,.slice a6 n.turns.length c6,.slice a7 n.srcs.length c7,.slice a8 n.arrs.length c8,.int .i64 n.time] 42)) wr) (fun i _=>n.bufs.length - (intOf i).toNat)
 case atStart=>exact⟨0,rfl,Nat.zero_le _,Lib.hid fun j h=>absurd h (Nat.not_lt_zero _),bel⟩
 case round=>
  obtain⟨k,rfl,hk,HA,HB⟩:=hrel
  obtain⟨hcr,hfr,hzr⟩:=bcell HB
  simp only[szs] at hzr
  have yy1:=lts1 hzr
  by_cases hlt:k<n.bufs.length
  ·obtain⟨b,off,rfl,hb,Ai,ci,p0,hle,hCi⟩:=rdB_at Rbu k hlt
   obtain⟨z1,z2,z3,z4,z5,z6⟩:=more hb
   have hki:=M9.out _ (rl_mem hlt)
   have i0:(k:Int)<(n.bufs.length:Int):=by omega
   by_cases g1:3<(rl n.bufs k).length
   ·have g1':(3:Int)<((rl n.bufs k).length:Int):=by omega
    go_wp2
    go_ret
    exact⟨ret_bool (netOk_no3 k hlt (bufOk_1 g1)).symm,bel⟩
   have g1':¬ (3:Int)<((rl n.bufs k).length:Int):=by omega
   have hco:=clsOnly_take_len (rl n.bufs k) ((k:Int) % 2) (rl n.bufs k).length
   rw[List.take_length] at hco
   by_cases g2:(clsOnly (rl n.bufs k) ((k % 2:Nat):Int)).length=(rl n.bufs k).length
   case neg=>
    have G2:=Lib.hid g2
    rw[←mod2] at g2
    have f2:(((clsOnly (rl n.bufs k) ((k:Int) % 2)).length:Int) != ((rl n.bufs k).length:Int))=true:=bne_iff_ne.2 (by omega)
    clear g2
    go_wp2_with (go_at_call 115;refine(impl_ClassOnly (rl n.bufs k) ((k:Int) % 2) Ai ci _ (by exact Kd.C_below hCi bel) hki).mono ?_;rintro e w1 ⟨hg1,Ba⟩;obtain⟨A1,d1,rfl,hk1,hC1⟩:=hg1.read;obtain⟨Ca,Fa,Za⟩:=bcell Ba;(try simp only[szs] at Za);have Bb:=far2;obtain⟨Cb,Fb,Zb⟩:=bcell Bb;(try simp only[szs] at Zb);try (first|obtain⟨Ya,Yb,Yc,Yd⟩:=lts4 Zb|obtain⟨Ya,Yb,Yc⟩:=lts3 Zb|obtain⟨Ya,Yb⟩:=lts2 Zb|have Ya:=lts1 Zb);have hb9:=Ba)
    go_ret
    exact⟨ret_bool (netOk_no3 k hlt (bufOk_2 G2.out)).symm,bel⟩
   have G2:=Lib.hid g2
   rw[←mod2] at g2
   have f2:(((clsOnly (rl n.bufs k) ((k:Int) % 2)).length:Int) != ((rl n.bufs k).length:Int))=false:=bne_eq_false_iff_eq.2 (by omega)
   clear g2
   cases h3:areFl n.mesh.g (rl n.bufs k)
   ·have H3:=Lib.hid h3
    go_wp2_with (first|(go_at_call 115;refine(impl_ClassOnly (rl n.bufs k) ((k:Int) % 2) Ai ci _ (by exact Kd.C_below hCi bel) hki).mono ?_;rintro e w1 ⟨hg1,Ba⟩;obtain⟨A1,d1,rfl,hk1,hC1⟩:=hg1.read;obtain⟨Ca,Fa,Za⟩:=bcell Ba;(try simp only[szs] at Za);have Bb:=far2;obtain⟨Cb,Fb,Zb⟩:=bcell Bb;(try simp only[szs] at Zb);try (first|obtain⟨Ya,Yb,Yc,Yd⟩:=lts4 Zb|obtain⟨Ya,Yb,Yc⟩:=lts3 Zb|obtain⟨Ya,Yb⟩:=lts2 Zb|have Ya:=lts1 Zb);have hb9:=Ba)|(go_at_call 116;refine(impl_areFlits n.mesh.g (rl n.bufs k) Ai ci _ (by exact Kd.C_below hCi bel) hki).mono ?_;rintro e w1 ⟨rfl,Ba⟩;obtain⟨Ca,Fa,Za⟩:=bcell Ba;(try simp only[szs] at Za);have Bb:=far2;obtain⟨Cb,Fb,Zb⟩:=bcell Bb;(try simp only[szs] at Zb);try (first|obtain⟨Ya,Yb,Yc,Yd⟩:=lts4 Zb|obtain⟨Ya,Yb,Yc⟩:=lts3 Zb|obtain⟨Ya,Yb⟩:=lts2 Zb|have Ya:=lts1 Zb);have hb9:=Ba))
    go_ret
    exact⟨ret_bool (netOk_no3 k hlt (bufOk_3 H3.out)).symm,bel⟩
   ·have H3:=Lib.hid h3
    go_wp2_with (first|(go_at_call 115;refine(impl_ClassOnly (rl n.bufs k) ((k:Int) % 2) Ai ci _ (by exact Kd.C_below hCi bel) hki).mono ?_;rintro e w1 ⟨hg1,Ba⟩;obtain⟨A1,d1,rfl,hk1,hC1⟩:=hg1.read;obtain⟨Ca,Fa,Za⟩:=bcell Ba;(try simp only[szs] at Za);have Bb:=far2;obtain⟨Cb,Fb,Zb⟩:=bcell Bb;(try simp only[szs] at Zb);try (first|obtain⟨Ya,Yb,Yc,Yd⟩:=lts4 Zb|obtain⟨Ya,Yb,Yc⟩:=lts3 Zb|obtain⟨Ya,Yb⟩:=lts2 Zb|have Ya:=lts1 Zb);have hb9:=Ba)|(go_at_call 116;refine(impl_areFlits n.mesh.g (rl n.bufs k) Ai ci _ (by exact Kd.C_below hCi bel) hki).mono ?_;rintro e w1 ⟨rfl,Ba⟩;obtain⟨Ca,Fa,Za⟩:=bcell Ba;(try simp only[szs] at Za);have Bb:=far2;obtain⟨Cb,Fb,Zb⟩:=bcell Bb;(try simp only[szs] at Zb);try (first|obtain⟨Ya,Yb,Yc,Yd⟩:=lts4 Zb|obtain⟨Ya,Yb,Yc⟩:=lts3 Zb|obtain⟨Ya,Yb⟩:=lts2 Zb|have Ya:=lts1 Zb);have hb9:=Ba))
    go_roundw
    case rel=>exact⟨k+1,by go_num,by omega,Lib.hid (upto HA.out (bufOk_4 g1 G2.out H3.out)),bel⟩
    case measure=>simp[intOf];omega
  ·have i0:¬ (k:Int)<(n.bufs.length:Int):=by omega
   have HBU:Hid (∀ j:Nat,j<n.bufs.length→bufOk n.mesh.g j (rl n.bufs j)=true):=Lib.hid fun j hj=>HA.out j (by omega)
   go_wp2
   go_loopw [89] (fun i wr=>∃ k:Nat,i=.int .i64 k∧k≤n.srcs.length∧Hid (∀ j:Nat,j<k→srcOk n.mesh.g (rl n.srcs j)=true)∧Below (w.alloc (.cells #[.int .i64 n.mesh.g.w,.int .i64 n.mesh.g.h,.slice a1 n.mesh.br.length c1,.slice a2 n.pa.length c2,.slice a3 n.pb.length c3,.slice a4 n.bufs.length c4,.slice a5 n.owners.length c5,.slice a6 n.turns.length c6,.slice a7 n.srcs.length c7,.slice a8 n.arrs.length c8,.int .i64 n.time] 42)).heap.size (w.alloc (.cells #[.int .i64 n.mesh.g.w,.int .i64 n.mesh.g.h,.slice a1 n.mesh.br.length c1,.slice a2 n.pa.length c2,.slice a3 n.pb.length c3,.slice a4 n.bufs.length c4,.slice a5 n.owners.length c5,.slice a6 n.turns.length c6,.slice a7 n.srcs.length c7,.slice a8 n.arrs.length c8,.int .i64 n.time] 42)) wr) (fun i _=>n.srcs.length - (intOf i).toNat)
   case atStart=>exact⟨0,rfl,Nat.zero_le _,Lib.hid fun j h=>absurd h (Nat.not_lt_zero _),bel⟩
   case round=>
    clear HA HB hcr hfr hzr yy1 hlt i0 hk
    obtain⟨k,rfl,hk,HA,HB⟩:=hrel
    obtain⟨hcr,hfr,hzr⟩:=bcell HB
    simp only[szs] at hzr
    have yy1:=lts1 hzr
    by_cases hlt:k<n.srcs.length
    ·obtain⟨b,off,rfl,hb,Ai,ci,p0,hle,hCi⟩:=rdB_at Rso k hlt
     obtain⟨z1,z2,z3,z4,z5,z6⟩:=more hb
     have hki:=M10.out _ (rl_mem hlt)
     have i0:(k:Int)<(n.srcs.length:Int):=by omega
     by_cases g1:60<(rl n.srcs k).length
     ·have g1':(60:Int)<((rl n.srcs k).length:Int):=by omega
      go_wp2
      go_ret
      exact⟨ret_bool (netOk_no4 k hlt (srcOk_1 g1)).symm,bel⟩
     have g1':¬ (60:Int)<((rl n.srcs k).length:Int):=by omega
     cases h3:areFl n.mesh.g (rl n.srcs k)
     ·have H3:=Lib.hid h3
      go_wp2_with (go_at_call 116;refine(impl_areFlits n.mesh.g (rl n.srcs k) Ai ci _ (by exact Kd.C_below hCi bel) hki).mono ?_;rintro e w1 ⟨rfl,Ba⟩;obtain⟨Ca,Fa,Za⟩:=bcell Ba;(try simp only[szs] at Za);have Bb:=far2;obtain⟨Cb,Fb,Zb⟩:=bcell Bb;(try simp only[szs] at Zb);try (first|obtain⟨Ya,Yb,Yc,Yd⟩:=lts4 Zb|obtain⟨Ya,Yb,Yc⟩:=lts3 Zb|obtain⟨Ya,Yb⟩:=lts2 Zb|have Ya:=lts1 Zb);have hb9:=Ba)
      go_ret
      exact⟨ret_bool (netOk_no4 k hlt (srcOk_2 H3.out)).symm,bel⟩
     ·have H3:=Lib.hid h3
      go_wp2_with (go_at_call 116;refine(impl_areFlits n.mesh.g (rl n.srcs k) Ai ci _ (by exact Kd.C_below hCi bel) hki).mono ?_;rintro e w1 ⟨rfl,Ba⟩;obtain⟨Ca,Fa,Za⟩:=bcell Ba;(try simp only[szs] at Za);have Bb:=far2;obtain⟨Cb,Fb,Zb⟩:=bcell Bb;(try simp only[szs] at Zb);try (first|obtain⟨Ya,Yb,Yc,Yd⟩:=lts4 Zb|obtain⟨Ya,Yb,Yc⟩:=lts3 Zb|obtain⟨Ya,Yb⟩:=lts2 Zb|have Ya:=lts1 Zb);have hb9:=Ba)
      go_roundw
      case rel=>exact⟨k+1,by go_num,by omega,Lib.hid (upto HA.out (srcOk_3 g1 H3.out)),bel⟩
      case measure=>simp[intOf];omega
    ·have i0:¬ (k:Int)<(n.srcs.length:Int):=by omega
     have HE:=Lib.hid (netOk_eq HC.out HSH.out HBU.out (fun j hj=>HA.out j (by omega)))
     cases t1:allI n.owners.length (fun i=>inside (ri n.owners i) (-1) 4)
     ·have T1:=Lib.hid t1
      go_wp2_with (go_at_call_of 117 n.owners;refine(impl_areInside n.owners (-1) 4 a5 c5 _ (by exact Kd.C_below Row bel) L5).mono ?_;rintro e w' ⟨rfl,rfl⟩)
      go_ret
      exact⟨ret_bool (by rw[HE.out,T1.out];rfl),bel⟩
     cases t2:allI n.turns.length (fun i=>inside (ri n.turns i) 0 9)
     ·have T1:=Lib.hid t1
      have T2:=Lib.hid t2
      go_wp2_with (first|(go_at_call_of 117 n.owners;refine(impl_areInside n.owners (-1) 4 a5 c5 _ (by exact Kd.C_below Row bel) L5).mono ?_;rintro e w' ⟨rfl,rfl⟩)|(go_at_call_of 117 n.turns;refine(impl_areInside n.turns 0 9 a6 c6 _ (by exact Kd.C_below Rtu bel) L6).mono ?_;rintro e w' ⟨rfl,rfl⟩))
      go_ret
      exact⟨ret_bool (by rw[HE.out,T1.out,T2.out];rfl),bel⟩
     ·have T1:=Lib.hid t1
      have T2:=Lib.hid t2
      go_wp2_with (first|(go_at_call_of 117 n.owners;refine(impl_areInside n.owners (-1) 4 a5 c5 _ (by exact Kd.C_below Row bel) L5).mono ?_;rintro e w' ⟨rfl,rfl⟩)|(go_at_call_of 117 n.turns;refine(impl_areInside n.turns 0 9 a6 c6 _ (by exact Kd.C_below Rtu bel) L6).mono ?_;rintro e w' ⟨rfl,rfl⟩)|(go_at_call 68;refine(impl_inside _ _ _ _).mono ?_;rintro e w' ⟨rfl,rfl⟩))
      go_ret
      exact⟨ret_bool (by rw[HE.out,T1.out,T2.out];rfl),bel⟩
theorem rdB_int {e:Nat} {w:World} {A:Option Addr} {l:List (List Flit)} (h:(kB e).C w A l.length l) (i:Int) (h0:0≤i) (h1:i<(l.length:Int)) :
    ∃ b off,A=some ⟨b,off,none⟩∧b<w.heap.size∧∃ Ai ci,w.cell? ⟨b,off+i.toNat,none⟩=some (.slice Ai (rl l i).length ci)∧(rl l i).length≤ci∧kF.C w Ai (rl l i).length (rl l i):=by
  obtain⟨b,off,e1,hb,Ai,ci,h2,h3,h4⟩:=rdB_at h i.toNat (by omega)
  rw[Int.toNat_of_nonneg h0] at h2 h3 h4
  exact⟨b,off,e1,hb,Ai,ci,h2,h3,h4⟩
theorem rdI_int {w:World} {A:Option Addr} {l:List Int} (h:Kd.C (Kd.int .i64) w A l.length l) (i:Int) (h0:0≤i) (h1:i<(l.length:Int)) :
    ∃ b off,A=some ⟨b,off,none⟩∧b<w.heap.size∧w.cell? ⟨b,off+i.toNat,none⟩=some (.int .i64 (ri l i)):=by
  obtain⟨b,off,e1,hb,h2⟩:=rdI_at h i.toNat (by omega)
  have h3:=h2 i.toNat (by omega)
  rw[Int.toNat_of_nonneg h0] at h3
  exact⟨b,off,e1,hb,h3⟩
theorem rdI_all {w:World} {A:Option Addr} {l:List Int} (h:Kd.C (Kd.int .i64) w A l.length l) (h0:0<l.length) :
    ∃ b off,A=some ⟨b,off,none⟩∧b<w.heap.size∧∀ i:Int,0≤i→i<(l.length:Int)→w.cell? ⟨b,off+i.toNat,none⟩=some (.int .i64 (ri l i)):=by
  obtain⟨b,off,e1,hb,h2⟩:=rdI_at h 0 h0
  refine⟨b,off,e1,hb,fun i i0 i1=>?_⟩
  have h3:=h2 i.toNat (by omega)
  rwa [Int.toNat_of_nonneg i0] at h3
theorem rdFl_0 {w:World} {A:Option Addr} {l:List Flit} (h:kF.C w A l.length l) (h0:0<l.length) :
    ∃ b off,A=some ⟨b,off,none⟩∧b<w.heap.size∧w.cell? ⟨b,off,none⟩=some (.int .i64 (rf l 0).pk)∧w.cell? ⟨b,off+1,none⟩=some (.int .i64 (rf l 0).dst)∧w.cell? ⟨b,off+2,none⟩=some (.int .i64 (rf l 0).cls)∧w.cell? ⟨b,off+3,none⟩=some (.bool (rf l 0).head)∧w.cell? ⟨b,off+4,none⟩=some (.bool (rf l 0).tail):=by
  obtain⟨b,off,e,hb,p0,p1,p2,p3,p4⟩:=rdFl_at h 0 h0
  simp only[Nat.zero_mul,Nat.add_zero] at p0 p1 p2 p3 p4
  exact⟨b,off,e,hb,p0,p1,p2,p3,p4⟩
theorem impl_BufferAt (a p c:Int) (w:World) (h0:0≤a) (h1:a≤15) (h2:0≤p) (h3:p≤4) (h4:0≤c) (h5:c≤1) :
    Calls Tryz.prog 128 #[.int .i64 a,.int .i64 p,.int .i64 c] w fun e w'=>e=.returned (.int .i64 (10*a+2*p+c))∧w=w':=by
  have i1:inside a 0 15=true:=inside_iff.2 ⟨h0,h1⟩
  have i2:inside p 0 4=true:=inside_iff.2 ⟨h2,h3⟩
  have i3:inside c 0 1=true:=inside_iff.2 ⟨h4,h5⟩
  go_enter Tryz.func128,Tryz.ntmps128
  go_wp2_with (first|(go_at_call 68;refine(impl_inside _ _ _ _).mono ?_;rintro e w' ⟨rfl,rfl⟩)|(go_at_call 148;refine(spec_l01In _ _ _ _).mono ?_;rintro e w' ⟨rfl,rfl⟩))
  go_ret
  exact⟨ret_int (by omega),rfl⟩
set_option maxHeartbeats 4000000 in
set_option maxRecDepth 100000 in
theorem impl_wanted (n:Net) (q:NA) (bx:Nat) (a i:Int) (w:World) (hr:NetR 153 w n q) (hx:Box w bx (netCells n q)) (ha:At n a i) :
  Calls Tryz.prog 131 #[.pointer (some ⟨bx,0,none⟩),.int .i64 a,.int .i64 i] w fun e w'=>e=.returned (.int .i64 (wantedN n a i))∧Below w.heap.size w w':=by
 obtain⟨a1,a2,a3,a4,a5,a6,a7,a8,c1,c2,c3,c4,c5,c6,c7,c8⟩:=q;obtain⟨Rbr,Rpa,Rpb,Rbu,Row,Rtu,Rso,Rar,L1,L2,L3,L4,L5,L6,L7,L8,L9,L10,L11⟩:=hr;have M9:=Lib.hid L9;have M10:=Lib.hid L10;have M11:=Lib.hid L11;clear L9 L10 L11;dsimp only [netCells] at *
 have xl:=hx.lt;have x0:w.cell? ⟨bx,0,none⟩=some (.int .i64 n.mesh.g.w):=hx.get 0;have x1:w.cell? ⟨bx,1,none⟩=some (.int .i64 n.mesh.g.h):=hx.get 1;have x2:w.cell? ⟨bx,2,none⟩=some (.slice a1 n.mesh.br.length c1):=hx.get 2;have x3:w.cell? ⟨bx,3,none⟩=some (.slice a2 n.pa.length c2):=hx.get 3;have x4:w.cell? ⟨bx,4,none⟩=some (.slice a3 n.pb.length c3):=hx.get 4;have x5:w.cell? ⟨bx,5,none⟩=some (.slice a4 n.bufs.length c4):=hx.get 5;have x6:w.cell? ⟨bx,6,none⟩=some (.slice a5 n.owners.length c5):=hx.get 6;have x7:w.cell? ⟨bx,7,none⟩=some (.slice a6 n.turns.length c6):=hx.get 7;have x8:w.cell? ⟨bx,8,none⟩=some (.slice a7 n.srcs.length c7):=hx.get 8;have x9:w.cell? ⟨bx,9,none⟩=some (.slice a8 n.arrs.length c8):=hx.get 9;have x10:w.cell? ⟨bx,10,none⟩=some (.int .i64 n.time):=hx.get 10;clear hx
 have HA:=Lib.hid ha
 obtain⟨a0,a15,j0,j1,j2,j3,j4,j5⟩:=ha.idx
 have i0:=ha.i0
 have i9:=ha.i9
 clear ha
 by_cases hl:(bufOf n a i).length=0
 ·have HW:=Lib.hid (wanted_1 hl)
  unfold bufOf at hl
  obtain⟨b,off,rfl,hb,Ai,ci,p0,hle,hCi⟩:=rdB_int Rbu (10*a+i) j0 j1
  obtain⟨l,el⟩:∃ l,rl n.bufs (10*a+i)=l:=⟨_,rfl⟩
  rw[el] at hl p0 hle hCi
  have hl':((l.length:Int) == 0)=true:=by simp[hl]
  have HL:=Lib.hid hl
  clear hl el
  go_enter Tryz.func131,Tryz.ntmps131
  go_wp2
  go_ret
  exact⟨ret_int HW.out.symm,bel⟩
 have hl0:0<(bufOf n a i).length:=by omega
 obtain⟨hn1,hn2⟩:=HA.out.buf0 hl0
 have HN1:=Lib.hid hn1
 have HN2:=Lib.hid hn2
 clear hn1 hn2 hl
 cases hh:(rf (bufOf n a i) 0).head
 ·have HW:=Lib.hid (wanted_3 hl0 hh)
  unfold bufOf at hl0 hh
  obtain⟨b,off,rfl,hb,Ai,ci,p0,hle,hCi⟩:=rdB_int Rbu (10*a+i) j0 j1
  obtain⟨b1,o1,rfl,Ba,q0,q1,q2,q3,q4⟩:=rdFl_0 hCi hl0
  obtain⟨l,el⟩:∃ l,rl n.bufs (10*a+i)=l:=⟨_,rfl⟩
  rw[el] at hl0 hh p0 hle q0 q1 q2 q3 q4
  have hl':((l.length:Int) == 0)=false:=by simp;intro h;simp[h] at hl0
  have hl1:(0:Int)<(l.length:Int):=by omega
  rw[hh] at q3
  clear hCi el hh
  go_enter Tryz.func131,Tryz.ntmps131
  go_wp2
  go_loopw [8] (fun j wr=>∃ k:Nat,j=.int .i64 k∧k≤5∧Hid (∀ j:Nat,j<k→¬ ownAt n a j (i % 2)=i / 2)∧Below w.heap.size w wr) (fun j _=>5 - (intOf j).toNat)
  case atStart=>exact⟨0,rfl,Nat.zero_le _,Lib.hid fun j h=>absurd h (Nat.not_lt_zero _),bel⟩
  case round=>
   obtain⟨k,rfl,hk,HK,HB⟩:=hrel
   obtain⟨hcr,hfr,hzr⟩:=bcell HB
   by_cases hlt:k<5
   ·have k0:(k:Int)≤4:=by omega
    have m0:0≤10*a+2*(k:Int)+i % 2:=by omega
    have m1:10*a+2*(k:Int)+i % 2<(n.owners.length:Int):=by omega
    obtain⟨b5,o5,rfl,hb5,r0⟩:=rdI_int Row (10*a+2*(k:Int)+i % 2) m0 m1
    obtain⟨o,ho⟩:∃ o,ri n.owners (10*a+2*(k:Int)+i % 2)=o:=⟨_,rfl⟩
    rw[ho] at r0
    have HO:=Lib.hid (show ownAt n a k (i % 2)=o from ho)
    clear ho
    by_cases e1:o=i / 2
    ·have f1:(o == i / 2)=true:=beq_iff_eq.2 e1
     have E1:=Lib.hid (ownPort_yes (n:=n) (a:=a) (i:=i) k hlt (HO.out.trans e1) HK.out)
     clear e1
     go_wp2_with fail
     refine wp_region_far (w) (by kernel_rfl) (by kernel_rfl) bel ?_
     have hqc:=far_cell (w)
     have hqf:=far_frozen (w)
     repeat (first|go_big_quiet_step ((go_at_call 128;exact far_same (impl_BufferAt a k (i % 2) _ (by omega) (by omega) (by omega) (by omega) (by omega) (by omega))))|quiet_step ((go_at_call 128;exact far_same (impl_BufferAt a k (i % 2) _ (by omega) (by omega) (by omega) (by omega) (by omega) (by omega)))))
     refine wpQuiet_nil ?_
     intro wq hbq
     clear hqc hqf
     obtain⟨hcq,hfq,hzq⟩:=bcell hbq
     try simp only[szs] at hzq
     go_wp2
     go_ret
     exact⟨ret_int (by rw[HW.out,E1.out]),bel⟩
    ·have f1:(o == i / 2)=false:=beq_eq_false_iff_ne.2 e1
     have E1:Hid (¬ ownAt n a k (i % 2)=i / 2):=Lib.hid (fun h=>e1 (HO.out.symm.trans h))
     clear e1
     go_wp2_with fail
     refine wp_region_far (w) (by kernel_rfl) (by kernel_rfl) bel ?_
     have hqc:=far_cell (w)
     have hqf:=far_frozen (w)
     repeat (first|go_big_quiet_step ((go_at_call 128;exact far_same (impl_BufferAt a k (i % 2) _ (by omega) (by omega) (by omega) (by omega) (by omega) (by omega))))|quiet_step ((go_at_call 128;exact far_same (impl_BufferAt a k (i % 2) _ (by omega) (by omega) (by omega) (by omega) (by omega) (by omega)))))
     refine wpQuiet_nil ?_
     intro wq hbq
     clear hqc hqf
     obtain⟨hcq,hfq,hzq⟩:=bcell hbq
     try simp only[szs] at hzq
     go_wp2
     go_roundw
     case rel=>exact⟨k+1,by go_num,by omega,Lib.hid (upto HK.out E1.out),bel⟩
     case measure=>simp[intOf];omega
   ·have k0:¬ (k:Int)≤4:=by omega
    go_wp2
    go_ret
    exact⟨ret_int (by rw[HW.out,ownPort_no (fun j hj=>HK.out j (by omega))]),bel⟩
 ·have HW:=Lib.hid (wanted_2 hl0 hh)
  have HP:=Lib.hid (portAt_entry (ok_tab HA.out.ok (i % 2)) HA.out.nd HN1.out)
  unfold bufOf at hl0 hh
  obtain⟨b,off,rfl,hb,Ai,ci,p0,hle,hCi⟩:=rdB_int Rbu (10*a+i) j0 j1
  obtain⟨b1,o1,rfl,Ba,q0,q1,q2,q3,q4⟩:=rdFl_0 hCi hl0
  obtain⟨l,el⟩:∃ l,rl n.bufs (10*a+i)=l:=⟨_,rfl⟩
  unfold bufOf at HN2 HP HW
  rw[el] at hl0 hh p0 hle q0 q1 q2 q3 q4 HN2 HP HW
  have hl':((l.length:Int) == 0)=false:=by simp;intro h;simp[h] at hl0
  have hl1:(0:Int)<(l.length:Int):=by omega
  rw[hh] at q3
  clear hCi el hh
  obtain⟨c,ec⟩:∃ c,(rf l 0).cls=c:=⟨_,rfl⟩
  rw[ec] at q2 HN2
  clear ec
  by_cases hc:c=1
  ·have Ca:(c == 1)=true:=beq_iff_eq.2 hc
   have HT:Hid (tabOf n.pa n.pb (i % 2)=n.pb):=Lib.hid (by rw[←HN2.out,hc];rfl)
   rw[HT.out] at HP HW
   clear hc
   go_enter Tryz.func131,Tryz.ntmps131
   go_wp2_with fail
   go_region_held3 (fun w'=>Below (w).heap.size (w) w'∧∀ bq oq,bq<(w).heap.size→w'.cell? ⟨bq,oq,none⟩=(w).cell? ⟨bq,oq,none⟩) (first|exact far_of bel) ( first|(go_at_call 45;refine(impl_tableFor_b n.pa n.pb a2 a3 c2 c3 c Ca _).mono ?_;rintro e w1 ⟨rfl,Ba⟩;obtain⟨Ca,Fa,Za⟩:=bcell Ba;(try simp only[szs] at Za);have Bb:=far2;obtain⟨Cb,Fb,Zb⟩:=bcell Bb;(try simp only[szs] at Zb);try (first|obtain⟨Ya,Yb,Yc,Yd⟩:=lts4 Zb|obtain⟨Ya,Yb,Yc⟩:=lts3 Zb|obtain⟨Ya,Yb⟩:=lts2 Zb|have Ya:=lts1 Zb);have hb9:=Ba)|(go_at_call 100;refine(impl_PortAt n.mesh n.pb a (rf l 0).dst a1 a3 _ _ _ (by exact Kd.C_below Rbr bel) L1 (by exact Kd.C_below Rpb bel) L3).mono ?_;rintro e w1 ⟨rfl,Ba⟩;obtain⟨Ca,Fa,Za⟩:=bcell Ba;(try simp only[szs] at Za);have Bb:=far2;obtain⟨Cb,Fb,Zb⟩:=bcell Bb;(try simp only[szs] at Zb);try (first|obtain⟨Ya,Yb,Yc,Yd⟩:=lts4 Zb|obtain⟨Ya,Yb,Yc⟩:=lts3 Zb|obtain⟨Ya,Yb⟩:=lts2 Zb|have Ya:=lts1 Zb);have hb9:=Ba))
   go_wp2
   go_ret
   exact⟨ret_int (by rw[HW.out,HP.out]),bel⟩
  ·have Ca:(c == 1)=false:=beq_eq_false_iff_ne.2 hc
   have HT:Hid (tabOf n.pa n.pb (i % 2)=n.pa):=Lib.hid (by rw[←HN2.out];exact if_neg hc)
   rw[HT.out] at HP HW
   clear hc
   go_enter Tryz.func131,Tryz.ntmps131
   go_wp2_with fail
   go_region_held3 (fun w'=>Below (w).heap.size (w) w'∧∀ bq oq,bq<(w).heap.size→w'.cell? ⟨bq,oq,none⟩=(w).cell? ⟨bq,oq,none⟩) (first|exact far_of bel) ( first|(go_at_call 45;refine(impl_tableFor_a n.pa n.pb a2 a3 c2 c3 c Ca _).mono ?_;rintro e w1 ⟨rfl,Ba⟩;obtain⟨Ca,Fa,Za⟩:=bcell Ba;(try simp only[szs] at Za);have Bb:=far2;obtain⟨Cb,Fb,Zb⟩:=bcell Bb;(try simp only[szs] at Zb);try (first|obtain⟨Ya,Yb,Yc,Yd⟩:=lts4 Zb|obtain⟨Ya,Yb,Yc⟩:=lts3 Zb|obtain⟨Ya,Yb⟩:=lts2 Zb|have Ya:=lts1 Zb);have hb9:=Ba)|(go_at_call 100;refine(impl_PortAt n.mesh n.pa a (rf l 0).dst a1 a2 _ _ _ (by exact Kd.C_below Rbr bel) L1 (by exact Kd.C_below Rpa bel) L2).mono ?_;rintro e w1 ⟨rfl,Ba⟩;obtain⟨Ca,Fa,Za⟩:=bcell Ba;(try simp only[szs] at Za);have Bb:=far2;obtain⟨Cb,Fb,Zb⟩:=bcell Bb;(try simp only[szs] at Zb);try (first|obtain⟨Ya,Yb,Yc,Yd⟩:=lts4 Zb|obtain⟨Ya,Yb,Yc⟩:=lts3 Zb|obtain⟨Ya,Yb⟩:=lts2 Zb|have Ya:=lts1 Zb);have hb9:=Ba))
   go_wp2
   go_ret
   exact⟨ret_int (by rw[HW.out,HP.out]),bel⟩
set_option maxHeartbeats 4000000 in
theorem impl_behind (n:Net) (q:NA) (bx:Nat) (a p c:Int) (w:World) (hr:NetR 153 w n q) (hx:Box w bx (netCells n q)) (ok:netOk n=true) (nd:isNode n.mesh.g a=true) (p0:0≤p) (p4:p≤4) (g0:0≤c) (g1:c≤1) :
    Calls Tryz.prog 127 #[.pointer (some ⟨bx,0,none⟩),.int .i64 a,.int .i64 p,.int .i64 c] w fun e w'=>e=.returned (.int .i64 (behindN n a p c))∧Below w.heap.size w w':=by
  obtain⟨_,_,_,a15⟩:=node_bounds nd
  have a0:=(isNode_iff.1 nd).1
  have OK:=Lib.hid ok
  have ND:=Lib.hid nd
  clear nd ok
  obtain⟨a1,a2,a3,a4,a5,a6,a7,a8,c1,c2,c3,c4,c5,c6,c7,c8⟩:=q;obtain⟨Rbr,Rpa,Rpb,Rbu,Row,Rtu,Rso,Rar,L1,L2,L3,L4,L5,L6,L7,L8,L9,L10,L11⟩:=hr;have M9:=Lib.hid L9;have M10:=Lib.hid L10;have M11:=Lib.hid L11;clear L9 L10 L11;dsimp only [netCells] at *
  have xl:=hx.lt;have x0:w.cell? ⟨bx,0,none⟩=some (.int .i64 n.mesh.g.w):=hx.get 0;have x1:w.cell? ⟨bx,1,none⟩=some (.int .i64 n.mesh.g.h):=hx.get 1;have x2:w.cell? ⟨bx,2,none⟩=some (.slice a1 n.mesh.br.length c1):=hx.get 2;have x3:w.cell? ⟨bx,3,none⟩=some (.slice a2 n.pa.length c2):=hx.get 3;have x4:w.cell? ⟨bx,4,none⟩=some (.slice a3 n.pb.length c3):=hx.get 4;have x5:w.cell? ⟨bx,5,none⟩=some (.slice a4 n.bufs.length c4):=hx.get 5;have x6:w.cell? ⟨bx,6,none⟩=some (.slice a5 n.owners.length c5):=hx.get 6;have x7:w.cell? ⟨bx,7,none⟩=some (.slice a6 n.turns.length c6):=hx.get 7;have x8:w.cell? ⟨bx,8,none⟩=some (.slice a7 n.srcs.length c7):=hx.get 8;have x9:w.cell? ⟨bx,9,none⟩=some (.slice a8 n.arrs.length c8):=hx.get 9;have x10:w.cell? ⟨bx,10,none⟩=some (.int .i64 n.time):=hx.get 10;clear hx
  by_cases h4:p=4
  · subst h4
    go_enter Tryz.func127,Tryz.ntmps127
    go_wp2
    go_ret
    exact⟨rfl,bel⟩
  have p3:p≤3:=by omega
  have e4:(p == 4)=false:=beq_eq_false_iff_ne.2 h4
  clear h4 p4
  cases hl:live n.mesh (4*a+p)
  · have HN:Hid (behindN n a p c=-1):=Lib.hid (by rw[behindN,if_neg (by omega),if_neg (by simp[hl])])
    go_enter Tryz.func127,Tryz.ntmps127
    go_wp2_with (go_at_call 132;refine(impl_live n.mesh (4*a+p) a1 _ _ (by exact Kd.C_below Rbr bel) L1).mono ?_;rintro e w1 ⟨rfl,Ba⟩;obtain⟨Ca,Fa,Za⟩:=bcell Ba;(try simp only[szs] at Za);have Bb:=far2;obtain⟨Cb,Fb,Zb⟩:=bcell Bb;(try simp only[szs] at Zb);try (first|obtain⟨Ya,Yb,Yc,Yd⟩:=lts4 Zb|obtain⟨Ya,Yb,Yc⟩:=lts3 Zb|obtain⟨Ya,Yb⟩:=lts2 Zb|have Ya:=lts1 Zb);have hb9:=Ba)
    go_ret
    exact⟨ret_int HN.out.symm,bel⟩
  · have HN:Hid (behindN n a p c=10*nextNode n.mesh.g a p+2*opposite p+c):=Lib.hid (by rw[behindN,if_neg (by omega),if_pos hl];rfl)
    obtain⟨_,v0,v1,v2,v3,_,_⟩:=behind_idx (c:=c) OK.out p0 p3 hl g0 g1
    go_enter Tryz.func127,Tryz.ntmps127
    go_wp2_with (first|(go_at_call 132;refine(impl_live n.mesh (4*a+p) a1 _ _ (by exact Kd.C_below Rbr bel) L1).mono ?_;rintro e w1 ⟨rfl,Ba⟩;obtain⟨Ca,Fa,Za⟩:=bcell Ba;(try simp only[szs] at Za);have Bb:=far2;obtain⟨Cb,Fb,Zb⟩:=bcell Bb;(try simp only[szs] at Zb);try (first|obtain⟨Ya,Yb,Yc,Yd⟩:=lts4 Zb|obtain⟨Ya,Yb,Yc⟩:=lts3 Zb|obtain⟨Ya,Yb⟩:=lts2 Zb|have Ya:=lts1 Zb);have hb9:=Ba)|(go_at_call 102;refine(impl_endOf n.mesh a p a1 _ _ ND.out p0 p3).mono ?_;rintro e w1 ⟨rfl,Ba⟩;obtain⟨Ca,Fa,Za⟩:=bcell Ba;(try simp only[szs] at Za);have Bb:=far2;obtain⟨Cb,Fb,Zb⟩:=bcell Bb;(try simp only[szs] at Zb);try (first|obtain⟨Ya,Yb,Yc,Yd⟩:=lts4 Zb|obtain⟨Ya,Yb,Yc⟩:=lts3 Zb|obtain⟨Ya,Yb⟩:=lts2 Zb|have Ya:=lts1 Zb);have hb9:=Ba)|(go_at_call 181;refine(impl_Opposite p _).mono ?_;rintro e w1 ⟨rfl,Ba⟩;obtain⟨Ca,Fa,Za⟩:=bcell Ba;(try simp only[szs] at Za);have Bb:=far2;obtain⟨Cb,Fb,Zb⟩:=bcell Bb;(try simp only[szs] at Zb);try (first|obtain⟨Ya,Yb,Yc,Yd⟩:=lts4 Zb|obtain⟨Ya,Yb,Yc⟩:=lts3 Zb|obtain⟨Ya,Yb⟩:=lts2 Zb|have Ya:=lts1 Zb);have hb9:=Ba)|(go_at_call 128;refine(impl_BufferAt _ _ c _ v0 v1 v2 (by omega) g0 g1).mono ?_;rintro e w' ⟨rfl,rfl⟩))
    go_ret
    exact⟨ret_int HN.out.symm,bel⟩
set_option maxHeartbeats 4000000 in
theorem impl_hasRoom (n:Net) (q:NA) (bx:Nat) (a p c:Int) (w:World) (hr:NetR 153 w n q) (hx:Box w bx (netCells n q)) (ok:netOk n=true) (nd:isNode n.mesh.g a=true) (p0:0≤p) (p4:p≤4) (g0:0≤c) (g1:c≤1) :
    Calls Tryz.prog 134 #[.pointer (some ⟨bx,0,none⟩),.int .i64 a,.int .i64 p,.int .i64 c] w fun e w'=>e=.returned (.bool (roomN n a p c))∧Below w.heap.size w w':=by
  have R:=Lib.hid hr
  have X:=Lib.hid hx
  have OK:=Lib.hid ok
  have ND:=Lib.hid nd
  clear ok nd
  obtain⟨a1,a2,a3,a4,a5,a6,a7,a8,c1,c2,c3,c4,c5,c6,c7,c8⟩:=q;obtain⟨Rbr,Rpa,Rpb,Rbu,Row,Rtu,Rso,Rar,L1,L2,L3,L4,L5,L6,L7,L8,L9,L10,L11⟩:=hr;have M9:=Lib.hid L9;have M10:=Lib.hid L10;have M11:=Lib.hid L11;clear L9 L10 L11;dsimp only [netCells] at *
  have xl:=hx.lt;have x0:w.cell? ⟨bx,0,none⟩=some (.int .i64 n.mesh.g.w):=hx.get 0;have x1:w.cell? ⟨bx,1,none⟩=some (.int .i64 n.mesh.g.h):=hx.get 1;have x2:w.cell? ⟨bx,2,none⟩=some (.slice a1 n.mesh.br.length c1):=hx.get 2;have x3:w.cell? ⟨bx,3,none⟩=some (.slice a2 n.pa.length c2):=hx.get 3;have x4:w.cell? ⟨bx,4,none⟩=some (.slice a3 n.pb.length c3):=hx.get 4;have x5:w.cell? ⟨bx,5,none⟩=some (.slice a4 n.bufs.length c4):=hx.get 5;have x6:w.cell? ⟨bx,6,none⟩=some (.slice a5 n.owners.length c5):=hx.get 6;have x7:w.cell? ⟨bx,7,none⟩=some (.slice a6 n.turns.length c6):=hx.get 7;have x8:w.cell? ⟨bx,8,none⟩=some (.slice a7 n.srcs.length c7):=hx.get 8;have x9:w.cell? ⟨bx,9,none⟩=some (.slice a8 n.arrs.length c8):=hx.get 9;have x10:w.cell? ⟨bx,10,none⟩=some (.int .i64 n.time):=hx.get 10;clear hx
  by_cases h4:p=4
  · subst h4
    go_enter Tryz.func134,Tryz.ntmps134
    go_wp2
    go_ret
    exact⟨rfl,bel⟩
  have p3:p≤3:=by omega
  have e4:(p == 4)=false:=beq_eq_false_iff_ne.2 h4
  clear h4
  cases hl:live n.mesh (4*a+p)
  · have HN:=Lib.hid (room_no (c:=c) p3 hl)
    have HB:Hid (behindN n a p c=-1):=Lib.hid (by rw[behindN,if_neg (by omega),if_neg (by simp[hl])])
    go_enter Tryz.func134,Tryz.ntmps134
    go_wp2_with (go_at_call 127;refine(impl_behind n _ bx a p c _ R.out X.out OK.out ND.out p0 p4 g0 g1).mono ?_;rintro e w1 ⟨he,Ba⟩;rw[HB.out] at he;subst he;obtain⟨Ca,Fa,Za⟩:=bcell Ba;(try simp only[szs] at Za);have Bb:=far2;obtain⟨Cb,Fb,Zb⟩:=bcell Bb;(try simp only[szs] at Zb);try (first|obtain⟨Ya,Yb,Yc,Yd⟩:=lts4 Zb|obtain⟨Ya,Yb,Yc⟩:=lts3 Zb|obtain⟨Ya,Yb⟩:=lts2 Zb|have Ya:=lts1 Zb);have hb9:=Ba)
    go_ret
    exact⟨ret_bool HN.out.symm,bel⟩
  · have HN:=Lib.hid (room_yes (c:=c) p3 hl)
    have HB:Hid (behindN n a p c=behindI n a p c):=Lib.hid (by rw[behindN,if_neg (by omega),if_pos hl])
    obtain⟨_,_,_,_,_,v4,v5⟩:=behind_idx (c:=c) OK.out p0 p3 hl g0 g1
    obtain⟨t,ht⟩:∃ t,behindI n a p c=t:=⟨_,rfl⟩
    rw[ht] at HN HB v4 v5
    clear ht
    obtain⟨b,off,rfl,hb,Ai,ci,r0,hle,hCi⟩:=rdB_int Rbu t v4 v5
    by_cases h3:(rl n.bufs t).length<3
    · have f3:((rl n.bufs t).length:Int)<3:=by omega
      have H3:=Lib.hid h3
      go_enter Tryz.func134,Tryz.ntmps134
      go_wp2_with (go_at_call 127;refine(impl_behind n _ bx a p c _ R.out X.out OK.out ND.out p0 p4 g0 g1).mono ?_;rintro e w1 ⟨he,Ba⟩;rw[HB.out] at he;subst he;obtain⟨Ca,Fa,Za⟩:=bcell Ba;(try simp only[szs] at Za);have Bb:=far2;obtain⟨Cb,Fb,Zb⟩:=bcell Bb;(try simp only[szs] at Zb);try (first|obtain⟨Ya,Yb,Yc,Yd⟩:=lts4 Zb|obtain⟨Ya,Yb,Yc⟩:=lts3 Zb|obtain⟨Ya,Yb⟩:=lts2 Zb|have Ya:=lts1 Zb);have hb9:=Ba)
      go_ret
      exact⟨ret_bool (by rw[HN.out,decide_eq_true H3.out]),bel⟩
    · have f3:¬ ((rl n.bufs t).length:Int)<3:=by omega
      have H3:=Lib.hid h3
      go_enter Tryz.func134,Tryz.ntmps134
      go_wp2_with (go_at_call 127;refine(impl_behind n _ bx a p c _ R.out X.out OK.out ND.out p0 p4 g0 g1).mono ?_;rintro e w1 ⟨he,Ba⟩;rw[HB.out] at he;subst he;obtain⟨Ca,Fa,Za⟩:=bcell Ba;(try simp only[szs] at Za);have Bb:=far2;obtain⟨Cb,Fb,Zb⟩:=bcell Bb;(try simp only[szs] at Zb);try (first|obtain⟨Ya,Yb,Yc,Yd⟩:=lts4 Zb|obtain⟨Ya,Yb,Yc⟩:=lts3 Zb|obtain⟨Ya,Yb⟩:=lts2 Zb|have Ya:=lts1 Zb);have hb9:=Ba)
      go_ret
      exact⟨ret_bool (by rw[HN.out,decide_eq_false H3.out];exact decide_eq_false (by omega)),bel⟩
set_option maxHeartbeats 4000000 in
set_option maxRecDepth 100000 in
theorem impl_isRequest (n:Net) (q:NA) (bx:Nat) (a i p:Int) (w:World) (hr:NetR 153 w n q) (hx:Box w bx (netCells n q)) (ha:At n a i) :
    Calls Tryz.prog 133 #[.pointer (some ⟨bx,0,none⟩),.int .i64 a,.int .i64 i,.int .i64 p] w fun e w'=>e=.returned (.bool (reqI n a i p))∧Below w.heap.size w w':=by
  have R:=Lib.hid hr
  have X:=Lib.hid hx
  have HA:=Lib.hid ha
  obtain⟨a0,a15,j0,j1,j2,j3,j4,j5⟩:=ha.idx
  have i0:=ha.i0
  have i9:=ha.i9
  obtain⟨y0,y1⟩:=ha.wanted
  clear ha
  obtain⟨a1,a2,a3,a4,a5,a6,a7,a8,c1,c2,c3,c4,c5,c6,c7,c8⟩:=q;obtain⟨Rbr,Rpa,Rpb,Rbu,Row,Rtu,Rso,Rar,L1,L2,L3,L4,L5,L6,L7,L8,L9,L10,L11⟩:=hr;have M9:=Lib.hid L9;have M10:=Lib.hid L10;have M11:=Lib.hid L11;clear L9 L10 L11;dsimp only [netCells] at *
  have xl:=hx.lt;have x0:w.cell? ⟨bx,0,none⟩=some (.int .i64 n.mesh.g.w):=hx.get 0;have x1:w.cell? ⟨bx,1,none⟩=some (.int .i64 n.mesh.g.h):=hx.get 1;have x2:w.cell? ⟨bx,2,none⟩=some (.slice a1 n.mesh.br.length c1):=hx.get 2;have x3:w.cell? ⟨bx,3,none⟩=some (.slice a2 n.pa.length c2):=hx.get 3;have x4:w.cell? ⟨bx,4,none⟩=some (.slice a3 n.pb.length c3):=hx.get 4;have x5:w.cell? ⟨bx,5,none⟩=some (.slice a4 n.bufs.length c4):=hx.get 5;have x6:w.cell? ⟨bx,6,none⟩=some (.slice a5 n.owners.length c5):=hx.get 6;have x7:w.cell? ⟨bx,7,none⟩=some (.slice a6 n.turns.length c6):=hx.get 7;have x8:w.cell? ⟨bx,8,none⟩=some (.slice a7 n.srcs.length c7):=hx.get 8;have x9:w.cell? ⟨bx,9,none⟩=some (.slice a8 n.arrs.length c8):=hx.get 9;have x10:w.cell? ⟨bx,10,none⟩=some (.int .i64 n.time):=hx.get 10;clear hx
  by_cases h0:p<0
  · have HN:=Lib.hid (reqI_neg (n:=n) (a:=a) (i:=i) h0)
    go_enter Tryz.func133,Tryz.ntmps133
    go_wp2
    go_ret
    exact⟨ret_bool HN.out.symm,bel⟩
  by_cases h1:wantedN n a i=p
  case neg=>
    have HN:=Lib.hid (reqI_no (request_no1 h1))
    have f1:(wantedN n a i != p)=true:=bne_iff_ne.2 h1
    clear h1
    go_enter Tryz.func133,Tryz.ntmps133
    go_wp2_with (go_at_call 131;refine(impl_wanted n _ bx a i _ R.out X.out HA.out).mono ?_;rintro e w1 ⟨rfl,Ba⟩;obtain⟨Ca,Fa,Za⟩:=bcell Ba;(try simp only[szs] at Za);have Bb:=far2;obtain⟨Cb,Fb,Zb⟩:=bcell Bb;(try simp only[szs] at Zb);try (first|obtain⟨Ya,Yb,Yc,Yd⟩:=lts4 Zb|obtain⟨Ya,Yb,Yc⟩:=lts3 Zb|obtain⟨Ya,Yb⟩:=lts2 Zb|have Ya:=lts1 Zb);have hb9:=Ba)
    go_ret
    exact⟨ret_bool HN.out.symm,bel⟩
  have p0:0≤p:=by omega
  have p4:p≤4:=by omega
  have H1:=Lib.hid h1
  have hl0:=wanted_len (n:=n) (a:=a) (i:=i) (by omega)
  have f1:(p != p)=false:=bne_eq_false_iff_eq.2 rfl
  have HI:=Lib.hid (reqI_in (n:=n) (a:=a) (i:=i) p0 p4)
  clear h1 y0 y1
  cases h2:roomN n a p (i % 2)
  · have H2:=Lib.hid h2
    go_enter Tryz.func133,Tryz.ntmps133
    go_wp2_with (first|(go_at_call 131;refine(impl_wanted n _ bx a i _ R.out X.out HA.out).mono ?_;rintro e w1 ⟨he,Ba⟩;rw[H1.out] at he;subst he;obtain⟨Ca,Fa,Za⟩:=bcell Ba;(try simp only[szs] at Za);have Bb:=far2;obtain⟨Cb,Fb,Zb⟩:=bcell Bb;(try simp only[szs] at Zb);try (first|obtain⟨Ya,Yb,Yc,Yd⟩:=lts4 Zb|obtain⟨Ya,Yb,Yc⟩:=lts3 Zb|obtain⟨Ya,Yb⟩:=lts2 Zb|have Ya:=lts1 Zb);have hb9:=Ba)|(go_at_call 134;refine(impl_hasRoom n _ bx a p (i % 2) _ (R.out.below bel) (X.out.below bel) HA.out.ok HA.out.nd p0 p4 (by omega) (by omega)).mono ?_;rintro e w1 ⟨rfl,Ba⟩;obtain⟨Ca,Fa,Za⟩:=bcell Ba;(try simp only[szs] at Za);have Bb:=far2;obtain⟨Cb,Fb,Zb⟩:=bcell Bb;(try simp only[szs] at Zb);try (first|obtain⟨Ya,Yb,Yc,Yd⟩:=lts4 Zb|obtain⟨Ya,Yb,Yc⟩:=lts3 Zb|obtain⟨Ya,Yb⟩:=lts2 Zb|have Ya:=lts1 Zb);have hb9:=Ba))
    go_ret
    exact⟨ret_bool (by rw[HI.out,request_no2 H2.out]),bel⟩
  have H2:=Lib.hid h2
  have m0:0≤10*a+2*p+i % 2:=by omega
  have m1:10*a+2*p+i % 2<(n.owners.length:Int):=by omega
  obtain⟨b5,o5,rfl,hb5,r0⟩:=rdI_int Row (10*a+2*p+i % 2) m0 m1
  obtain⟨o,ho⟩:∃ o,ri n.owners (10*a+2*p+i % 2)=o:=⟨_,rfl⟩
  rw[ho] at r0
  have HO:=Lib.hid (show ownAt n a p (i % 2)=o from ho)
  clear ho
  obtain⟨W,hW⟩:∃ W,W=w:=⟨w,rfl⟩
  cases hh:(rf (bufOf n a i) 0).head
  all_goals
    have HQ:=Lib.hid hh
    unfold bufOf at hl0 hh
    obtain⟨b,off,rfl,hb,Ai,ci,u0,hle,hCi⟩:=rdB_int Rbu (10*a+i) j0 j1
    obtain⟨b1,o1,rfl,Ba,q0,q1,q2,q3,q4⟩:=rdFl_0 hCi hl0
    obtain⟨l,el⟩:∃ l,rl n.bufs (10*a+i)=l:=⟨_,rfl⟩
    rw[el] at hl0 hh u0 hle q0 q1 q2 q3 q4
    have hl1:(0:Int)<(l.length:Int):=by omega
    rw[hh] at q3
    clear hCi el hh hW
    go_enter Tryz.func133,Tryz.ntmps133
    go_wp2_with (first|(go_at_call 131;refine(impl_wanted n _ bx a i _ R.out X.out HA.out).mono ?_;rintro e w1 ⟨he,Ba⟩;rw[H1.out] at he;subst he;obtain⟨Ca,Fa,Za⟩:=bcell Ba;(try simp only[szs] at Za);have Bb:=far2;obtain⟨Cb,Fb,Zb⟩:=bcell Bb;(try simp only[szs] at Zb);try (first|obtain⟨Ya,Yb,Yc,Yd⟩:=lts4 Zb|obtain⟨Ya,Yb,Yc⟩:=lts3 Zb|obtain⟨Ya,Yb⟩:=lts2 Zb|have Ya:=lts1 Zb);have hb9:=Ba)|(go_at_call 134;refine(impl_hasRoom n _ bx a p (i % 2) _ (R.out.below bel) (X.out.below bel) HA.out.ok HA.out.nd p0 p4 (by omega) (by omega)).mono ?_;rintro e w1 ⟨rfl,Ba⟩;obtain⟨Ca,Fa,Za⟩:=bcell Ba;(try simp only[szs] at Za);have Bb:=far2;obtain⟨Cb,Fb,Zb⟩:=bcell Bb;(try simp only[szs] at Zb);try (first|obtain⟨Ya,Yb,Yc,Yd⟩:=lts4 Zb|obtain⟨Ya,Yb,Yc⟩:=lts3 Zb|obtain⟨Ya,Yb⟩:=lts2 Zb|have Ya:=lts1 Zb);have hb9:=Ba))
    refine wp_region_far (w) (by kernel_rfl) (by kernel_rfl) bel ?_
    have hqc:=far_cell (w)
    have hqf:=far_frozen (w)
    repeat (first|go_big_quiet_step ((go_at_call 128;exact far_same (impl_BufferAt a p (i % 2) _ (by omega) (by omega) (by omega) (by omega) (by omega) (by omega))))|quiet_step ((go_at_call 128;exact far_same (impl_BufferAt a p (i % 2) _ (by omega) (by omega) (by omega) (by omega) (by omega) (by omega)))))
    refine wpQuiet_nil ?_
    intro wq hbq
    clear hqc hqf
    obtain⟨hcq,hfq,hzq⟩:=bcell hbq
    try simp only[szs] at hzq
    go_wp2
    go_ret
    exact⟨ret_bool (by first|rw[HI.out,request_1 H1.out H2.out HQ.out,HO.out]|rw[HI.out,request_2 H1.out H2.out HQ.out,HO.out]),bel⟩
set_option maxHeartbeats 2000000 in
theorem impl_requests (n:Net) (q:NA) (bx:Nat) (a p:Int) (w:World) (hr:NetR 153 w n q) (hx:Box w bx (netCells n q)) (ok:netOk n=true) (nd:isNode n.mesh.g a=true) :
    Calls Tryz.prog 212 #[.pointer (some ⟨bx,0,none⟩),.int .i64 a,.int .i64 p] w fun e w'=>GotI w w' (requestsN n a p) e∧Below w.heap.size w w':=by
  have R:=Lib.hid hr
  have X:=Lib.hid hx
  have OK:=Lib.hid ok
  have ND:=Lib.hid nd
  clear hr hx ok nd
  go_enter Tryz.func212,Tryz.ntmps212
  go_wp2
  go_loopw [7,10] (fun v j wr=>∃ k:Nat,j=.int .i64 k∧k≤10∧Kd.R (Kd.int .i64) 3 wr w.heap.size (fun _=>True) v (requestsTo n a p k)∧Below w.heap.size w wr) (fun _ j _=>10 - (intOf j).toNat)
  case atStart=>exact⟨0,rfl,Nat.zero_le _,R_empty (W0:=w) _ _ (bw_size bel),bel⟩
  case round=>
    obtain⟨k,rfl,hk,HO,HB⟩:=hrel
    obtain⟨Ao,co,rfl⟩:=Kd.R_slice HO
    have hlen:=requestsTo_len n a p k
    obtain⟨hcr,hfr,hzr⟩:=bcell HB
    by_cases hlt:k<10
    · have i0:(k:Int)<10:=by omega
      cases h1:reqI n a k p
      · have HS:=Lib.hid (requestsTo_no h1)
        go_wp2_with (go_at_call 133;refine(impl_isRequest n q bx a k p _ (R.out.below bel) (X.out.below bel) ⟨OK.out,ND.out,by omega,by omega⟩).mono ?_;rintro e w1 ⟨rfl,Ba⟩;obtain⟨Ca,Fa,Za⟩:=bcell Ba;(try simp only[szs] at Za);have Bb:=far2;obtain⟨Cb,Fb,Zb⟩:=bcell Bb;(try simp only[szs] at Zb);try (first|obtain⟨Ya,Yb,Yc,Yd⟩:=lts4 Zb|obtain⟨Ya,Yb,Yc⟩:=lts3 Zb|obtain⟨Ya,Yb⟩:=lts2 Zb|have Ya:=lts1 Zb);have hb9:=Ba)
        go_roundw
        case rel=>exact⟨k+1,by go_num,by omega,by rw[HS.out];exact(by exact Kd.R_below HO bel),bel⟩
        case measure=>simp[intOf];omega
      · have HS:=Lib.hid (requestsTo_yes h1)
        go_wp2_with (first|(go_at_call 133;refine(impl_isRequest n q bx a k p _ (R.out.below bel) (X.out.below bel) ⟨OK.out,ND.out,by omega,by omega⟩).mono ?_;rintro e w1 ⟨rfl,Ba⟩;obtain⟨Ca,Fa,Za⟩:=bcell Ba;(try simp only[szs] at Za);have Bb:=far2;obtain⟨Cb,Fb,Zb⟩:=bcell Bb;(try simp only[szs] at Zb);try (first|obtain⟨Ya,Yb,Yc,Yd⟩:=lts4 Zb|obtain⟨Ya,Yb,Yc⟩:=lts3 Zb|obtain⟨Ya,Yb⟩:=lts2 Zb|have Ya:=lts1 Zb);have hb9:=Ba)|(at_builtin;refine app_int (W0:=w) rfl (.tmp 18) (.tmp 20) 26 3 rfl Tryz.underlying26 info_int _ (requestsTo n a p k) _ rfl (by first|rfl|exact congrArg (fun z=>Value.slice (some ⟨z,0,none⟩) 1 1) (World.size_alloc _ _).symm) (by exact Kd.R_below HO bel) bel (by omega) ?_;intro v1 w1 HO1 HB1;obtain⟨Ca,Fa,Za⟩:=bcell HB1;(try simp only[szs] at Za);have Bb:=HB1;have hb9:=HB1))
        go_roundw
        case rel=>exact⟨k+1,by go_num,by omega,by rw[HS.out];exact(by exact Kd.R_below HO1 bel),bel⟩
        case measure=>simp[intOf];omega
    · have i0:¬ (k:Int)<10:=by omega
      obtain rfl:k=10:=by omega
      go_wp2
      go_ret
      exact⟨⟨_,rfl,(by exact Kd.R_below HO bel)⟩,bel⟩
end Go.Proofs.YtodbglncccgdbaaGreat
