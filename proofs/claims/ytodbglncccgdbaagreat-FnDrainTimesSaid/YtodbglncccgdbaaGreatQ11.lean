/- Lemmas for laws of this seat, for all inputs: NetOkS ReqS GrD GrI. -/
import Derived.Test.YtodbglncccgdbaaGreatQ10
import Derived.Test.YtodbglncccgdbaaGreatQ9
import Derived.Lib.SliceRun
set_option linter.unusedVariables false
set_option linter.unusedSimpArgs false
namespace Go.Proofs.YtodbglncccgdbaaGreat
open Go.RowKit Go.Proofs.YtodbglncccgdbaaGreatW.PrintWords
open NoC
theorem netOk_no5 {n:Net} (k:Nat) (hk:k<n.owners.length) (h:inside (ri n.owners k) (-1) 4=false):netOk n=false:=by simp[netOk,allI_false (p:=fun (i:Nat)=>inside (ri n.owners i) (-1) 4) k hk h]
theorem netOk_no6 {n:Net} (k:Nat) (hk:k<n.turns.length) (h:inside (ri n.turns k) 0 9=false):netOk n=false:=by simp[netOk,allI_false (p:=fun (i:Nat)=>inside (ri n.turns i) 0 9) k hk h]
theorem netOk_no7 {n:Net} (h:inside n.time 0 1000000=false):netOk n=false:=by simp[netOk,h]
def clsIs (i:Nat) (l:List Flit) (j:Nat):Prop:=(rf l j).cls=((i % 2:Nat):Int)
theorem cls_all {i:Nat} {l:List Flit} (h:∀ j:Nat,j<l.length→clsIs i l j):l.all (fun f=>f.cls == ((i % 2:Nat):Int))=true:=by
  rw[List.all_eq_true]
  intro f hf
  obtain⟨j,hj,rfl⟩:=List.getElem_of_mem hf
  have:=h j hj
  unfold clsIs at this
  rw[rf_get l j hj] at this
  simpa using this
theorem bufOk_5 {g:Grid} {i:Nat} {l:List Flit} (h1:¬ 3<l.length) (h3:areFl g l=true) (h2:∀ j:Nat,j<l.length→clsIs i l j):bufOk g i l=true:=by
  simp only[bufOk,cls_all h2,h3,Bool.and_true,decide_eq_true_eq]
  omega
theorem bufOk_6 {g:Grid} {i:Nat} {l:List Flit} (j:Nat) (hj:j<l.length) (h:¬ clsIs i l j):bufOk g i l=false:=by
  have:l.all (fun f=>f.cls == ((i % 2:Nat):Int))=false:=by
    rw[Bool.eq_false_iff]
    intro ha
    rw[List.all_eq_true] at ha
    have:=ha _ (List.getElem_mem hj)
    unfold clsIs at h
    rw[rf_get l j hj] at h
    exact h (by simpa using this)
  simp only[bufOk,this,Bool.and_false,Bool.false_and]

set_option maxHeartbeats 8000000 in
set_option maxRecDepth 100000 in
theorem spec_NetOk (n:Net) (q:NA) (w:World) (hr:NetR 153 w n q):Calls Tryz.prog 82 #[.agg (netCells n q)] w fun e w'=>e=.returned (.bool (netOk n))∧Below w.heap.size w w':=by
 obtain⟨a1,a2,a3,a4,a5,a6,a7,a8,c1,c2,c3,c4,c5,c6,c7,c8⟩:=q;obtain⟨Rbr,Rpa,Rpb,Rbu,Row,Rtu,Rso,Rar,L1,L2,L3,L4,L5,L6,L7,L8,L9,L10,L11⟩:=hr;have M9:=Lib.hid L9;have M10:=Lib.hid L10;have M11:=Lib.hid L11;clear L9 L10 L11;dsimp only [netCells] at *
 obtain⟨n0,n1⟩:=count_le n.mesh.g
 cases hc:classesOk n.mesh n.pa n.pb
 ·have HC:=Lib.hid hc
  go_enter Tryz.func82,Tryz.ntmps82
  go_wp2_with (first|(go_at_call 93;refine(spec_NodeCount n.mesh.g _).mono ?_;rintro e w1 ⟨rfl,Ba⟩;obtain⟨Ca,Fa,Za⟩:=bcell Ba;(try simp only[szs] at Za);have Bb:=far2;obtain⟨Cb,Fb,Zb⟩:=bcell Bb;(try simp only[szs] at Zb);try (first|obtain⟨Ya,Yb,Yc,Yd⟩:=lts4 Zb|obtain⟨Ya,Yb,Yc⟩:=lts3 Zb|obtain⟨Ya,Yb⟩:=lts2 Zb|have Ya:=lts1 Zb);have hb9:=Ba)|(go_at_call 147;refine(spec_ClassesOk n.mesh n.pa n.pb a1 a2 a3 _ _ _ _ (by exact Kd.C_below Rbr bel) L1 (by exact Kd.C_below Rpa bel) L2 (by exact Kd.C_below Rpb bel) L3).mono ?_;rintro e w1 ⟨rfl,Ba⟩;obtain⟨Ca,Fa,Za⟩:=bcell Ba;(try simp only[szs] at Za);have Bb:=far2;obtain⟨Cb,Fb,Zb⟩:=bcell Bb;(try simp only[szs] at Zb);try (first|obtain⟨Ya,Yb,Yc,Yd⟩:=lts4 Zb|obtain⟨Ya,Yb,Yc⟩:=lts3 Zb|obtain⟨Ya,Yb⟩:=lts2 Zb|have Ya:=lts1 Zb);have hb9:=Ba)|(go_at_call 148;refine(spec_l01In _ _ _ _).mono ?_;rintro e w' ⟨rfl,rfl⟩))
  go_ret
  exact⟨ret_bool (netOk_no1 HC.out).symm,bel⟩
 by_cases s0:(n.bufs.length:Int)=10*nodeCount n.mesh.g
 case neg=>
  have e0:((n.bufs.length:Int) != 10*nodeCount n.mesh.g)=true:=bne_iff_ne.2 s0
  have S0:=Lib.hid s0
  clear s0
  go_enter Tryz.func82,Tryz.ntmps82
  go_wp2_with (first|(go_at_call 93;refine(spec_NodeCount n.mesh.g _).mono ?_;rintro e w1 ⟨rfl,Ba⟩;obtain⟨Ca,Fa,Za⟩:=bcell Ba;(try simp only[szs] at Za);have Bb:=far2;obtain⟨Cb,Fb,Zb⟩:=bcell Bb;(try simp only[szs] at Zb);try (first|obtain⟨Ya,Yb,Yc,Yd⟩:=lts4 Zb|obtain⟨Ya,Yb,Yc⟩:=lts3 Zb|obtain⟨Ya,Yb⟩:=lts2 Zb|have Ya:=lts1 Zb);have hb9:=Ba)|(go_at_call 147;refine(spec_ClassesOk n.mesh n.pa n.pb a1 a2 a3 _ _ _ _ (by exact Kd.C_below Rbr bel) L1 (by exact Kd.C_below Rpa bel) L2 (by exact Kd.C_below Rpb bel) L3).mono ?_;rintro e w1 ⟨rfl,Ba⟩;obtain⟨Ca,Fa,Za⟩:=bcell Ba;(try simp only[szs] at Za);have Bb:=far2;obtain⟨Cb,Fb,Zb⟩:=bcell Bb;(try simp only[szs] at Zb);try (first|obtain⟨Ya,Yb,Yc,Yd⟩:=lts4 Zb|obtain⟨Ya,Yb,Yc⟩:=lts3 Zb|obtain⟨Ya,Yb⟩:=lts2 Zb|have Ya:=lts1 Zb);have hb9:=Ba)|(go_at_call 148;refine(spec_l01In _ _ _ _).mono ?_;rintro e w' ⟨rfl,rfl⟩))
  go_ret
  exact⟨ret_bool (netOk_no2 (shape_no1 S0.out)).symm,bel⟩
 have e0:((n.bufs.length:Int) != 10*nodeCount n.mesh.g)=false:=bne_eq_false_iff_eq.2 s0
 have S0:=Lib.hid s0
 have u0:(n.bufs.length:Int)≤10*nodeCount n.mesh.g:=by omega
 have v0:10*nodeCount n.mesh.g≤(n.bufs.length:Int):=by omega
 clear s0
 by_cases s1:(n.owners.length:Int)=10*nodeCount n.mesh.g
 case neg=>
  have e1:((n.owners.length:Int) != 10*nodeCount n.mesh.g)=true:=bne_iff_ne.2 s1
  have S1:=Lib.hid s1
  clear s1
  go_enter Tryz.func82,Tryz.ntmps82
  go_wp2_with (first|(go_at_call 93;refine(spec_NodeCount n.mesh.g _).mono ?_;rintro e w1 ⟨rfl,Ba⟩;obtain⟨Ca,Fa,Za⟩:=bcell Ba;(try simp only[szs] at Za);have Bb:=far2;obtain⟨Cb,Fb,Zb⟩:=bcell Bb;(try simp only[szs] at Zb);try (first|obtain⟨Ya,Yb,Yc,Yd⟩:=lts4 Zb|obtain⟨Ya,Yb,Yc⟩:=lts3 Zb|obtain⟨Ya,Yb⟩:=lts2 Zb|have Ya:=lts1 Zb);have hb9:=Ba)|(go_at_call 147;refine(spec_ClassesOk n.mesh n.pa n.pb a1 a2 a3 _ _ _ _ (by exact Kd.C_below Rbr bel) L1 (by exact Kd.C_below Rpa bel) L2 (by exact Kd.C_below Rpb bel) L3).mono ?_;rintro e w1 ⟨rfl,Ba⟩;obtain⟨Ca,Fa,Za⟩:=bcell Ba;(try simp only[szs] at Za);have Bb:=far2;obtain⟨Cb,Fb,Zb⟩:=bcell Bb;(try simp only[szs] at Zb);try (first|obtain⟨Ya,Yb,Yc,Yd⟩:=lts4 Zb|obtain⟨Ya,Yb,Yc⟩:=lts3 Zb|obtain⟨Ya,Yb⟩:=lts2 Zb|have Ya:=lts1 Zb);have hb9:=Ba)|(go_at_call 148;refine(spec_l01In _ _ _ _).mono ?_;rintro e w' ⟨rfl,rfl⟩))
  go_ret
  exact⟨ret_bool (netOk_no2 (shape_no2 S1.out)).symm,bel⟩
 have e1:((n.owners.length:Int) != 10*nodeCount n.mesh.g)=false:=bne_eq_false_iff_eq.2 s1
 have S1:=Lib.hid s1
 have u1:(n.owners.length:Int)≤10*nodeCount n.mesh.g:=by omega
 have v1:10*nodeCount n.mesh.g≤(n.owners.length:Int):=by omega
 clear s1
 by_cases s2:(n.turns.length:Int)=5*nodeCount n.mesh.g
 case neg=>
  have e2:((n.turns.length:Int) != 5*nodeCount n.mesh.g)=true:=bne_iff_ne.2 s2
  have S2:=Lib.hid s2
  clear s2
  go_enter Tryz.func82,Tryz.ntmps82
  go_wp2_with (first|(go_at_call 93;refine(spec_NodeCount n.mesh.g _).mono ?_;rintro e w1 ⟨rfl,Ba⟩;obtain⟨Ca,Fa,Za⟩:=bcell Ba;(try simp only[szs] at Za);have Bb:=far2;obtain⟨Cb,Fb,Zb⟩:=bcell Bb;(try simp only[szs] at Zb);try (first|obtain⟨Ya,Yb,Yc,Yd⟩:=lts4 Zb|obtain⟨Ya,Yb,Yc⟩:=lts3 Zb|obtain⟨Ya,Yb⟩:=lts2 Zb|have Ya:=lts1 Zb);have hb9:=Ba)|(go_at_call 147;refine(spec_ClassesOk n.mesh n.pa n.pb a1 a2 a3 _ _ _ _ (by exact Kd.C_below Rbr bel) L1 (by exact Kd.C_below Rpa bel) L2 (by exact Kd.C_below Rpb bel) L3).mono ?_;rintro e w1 ⟨rfl,Ba⟩;obtain⟨Ca,Fa,Za⟩:=bcell Ba;(try simp only[szs] at Za);have Bb:=far2;obtain⟨Cb,Fb,Zb⟩:=bcell Bb;(try simp only[szs] at Zb);try (first|obtain⟨Ya,Yb,Yc,Yd⟩:=lts4 Zb|obtain⟨Ya,Yb,Yc⟩:=lts3 Zb|obtain⟨Ya,Yb⟩:=lts2 Zb|have Ya:=lts1 Zb);have hb9:=Ba)|(go_at_call 148;refine(spec_l01In _ _ _ _).mono ?_;rintro e w' ⟨rfl,rfl⟩))
  go_ret
  exact⟨ret_bool (netOk_no2 (shape_no3 S2.out)).symm,bel⟩
 have e2:((n.turns.length:Int) != 5*nodeCount n.mesh.g)=false:=bne_eq_false_iff_eq.2 s2
 have S2:=Lib.hid s2
 have u2:(n.turns.length:Int)≤5*nodeCount n.mesh.g:=by omega
 have v2:5*nodeCount n.mesh.g≤(n.turns.length:Int):=by omega
 clear s2
 by_cases s3:(n.srcs.length:Int)=nodeCount n.mesh.g
 case neg=>
  have e3:((n.srcs.length:Int) != nodeCount n.mesh.g)=true:=bne_iff_ne.2 s3
  have S3:=Lib.hid s3
  clear s3
  go_enter Tryz.func82,Tryz.ntmps82
  go_wp2_with (first|(go_at_call 93;refine(spec_NodeCount n.mesh.g _).mono ?_;rintro e w1 ⟨rfl,Ba⟩;obtain⟨Ca,Fa,Za⟩:=bcell Ba;(try simp only[szs] at Za);have Bb:=far2;obtain⟨Cb,Fb,Zb⟩:=bcell Bb;(try simp only[szs] at Zb);try (first|obtain⟨Ya,Yb,Yc,Yd⟩:=lts4 Zb|obtain⟨Ya,Yb,Yc⟩:=lts3 Zb|obtain⟨Ya,Yb⟩:=lts2 Zb|have Ya:=lts1 Zb);have hb9:=Ba)|(go_at_call 147;refine(spec_ClassesOk n.mesh n.pa n.pb a1 a2 a3 _ _ _ _ (by exact Kd.C_below Rbr bel) L1 (by exact Kd.C_below Rpa bel) L2 (by exact Kd.C_below Rpb bel) L3).mono ?_;rintro e w1 ⟨rfl,Ba⟩;obtain⟨Ca,Fa,Za⟩:=bcell Ba;(try simp only[szs] at Za);have Bb:=far2;obtain⟨Cb,Fb,Zb⟩:=bcell Bb;(try simp only[szs] at Zb);try (first|obtain⟨Ya,Yb,Yc,Yd⟩:=lts4 Zb|obtain⟨Ya,Yb,Yc⟩:=lts3 Zb|obtain⟨Ya,Yb⟩:=lts2 Zb|have Ya:=lts1 Zb);have hb9:=Ba)|(go_at_call 148;refine(spec_l01In _ _ _ _).mono ?_;rintro e w' ⟨rfl,rfl⟩))
  go_ret
  exact⟨ret_bool (netOk_no2 (shape_no4 S3.out)).symm,bel⟩
 have e3:((n.srcs.length:Int) != nodeCount n.mesh.g)=false:=bne_eq_false_iff_eq.2 s3
 have S3:=Lib.hid s3
 have u3:(n.srcs.length:Int)≤nodeCount n.mesh.g:=by omega
 have v3:nodeCount n.mesh.g≤(n.srcs.length:Int):=by omega
 clear s3
 by_cases s4:(n.arrs.length:Int)=nodeCount n.mesh.g
 case neg=>
  have e4:((n.arrs.length:Int) != nodeCount n.mesh.g)=true:=bne_iff_ne.2 s4
  have S4:=Lib.hid s4
  clear s4
  go_enter Tryz.func82,Tryz.ntmps82
  go_wp2_with (first|(go_at_call 93;refine(spec_NodeCount n.mesh.g _).mono ?_;rintro e w1 ⟨rfl,Ba⟩;obtain⟨Ca,Fa,Za⟩:=bcell Ba;(try simp only[szs] at Za);have Bb:=far2;obtain⟨Cb,Fb,Zb⟩:=bcell Bb;(try simp only[szs] at Zb);try (first|obtain⟨Ya,Yb,Yc,Yd⟩:=lts4 Zb|obtain⟨Ya,Yb,Yc⟩:=lts3 Zb|obtain⟨Ya,Yb⟩:=lts2 Zb|have Ya:=lts1 Zb);have hb9:=Ba)|(go_at_call 147;refine(spec_ClassesOk n.mesh n.pa n.pb a1 a2 a3 _ _ _ _ (by exact Kd.C_below Rbr bel) L1 (by exact Kd.C_below Rpa bel) L2 (by exact Kd.C_below Rpb bel) L3).mono ?_;rintro e w1 ⟨rfl,Ba⟩;obtain⟨Ca,Fa,Za⟩:=bcell Ba;(try simp only[szs] at Za);have Bb:=far2;obtain⟨Cb,Fb,Zb⟩:=bcell Bb;(try simp only[szs] at Zb);try (first|obtain⟨Ya,Yb,Yc,Yd⟩:=lts4 Zb|obtain⟨Ya,Yb,Yc⟩:=lts3 Zb|obtain⟨Ya,Yb⟩:=lts2 Zb|have Ya:=lts1 Zb);have hb9:=Ba)|(go_at_call 148;refine(spec_l01In _ _ _ _).mono ?_;rintro e w' ⟨rfl,rfl⟩))
  go_ret
  exact⟨ret_bool (netOk_no2 (shape_no5 S4.out)).symm,bel⟩
 have e4:((n.arrs.length:Int) != nodeCount n.mesh.g)=false:=bne_eq_false_iff_eq.2 s4
 have S4:=Lib.hid s4
 have u4:(n.arrs.length:Int)≤nodeCount n.mesh.g:=by omega
 have v4:nodeCount n.mesh.g≤(n.arrs.length:Int):=by omega
 clear s4
 cases tm:inside n.time 0 1000000
 ·have HT:=Lib.hid tm
  go_enter Tryz.func82,Tryz.ntmps82
  go_wp2_with (first|(go_at_call 93;refine(spec_NodeCount n.mesh.g _).mono ?_;rintro e w1 ⟨rfl,Ba⟩;obtain⟨Ca,Fa,Za⟩:=bcell Ba;(try simp only[szs] at Za);have Bb:=far2;obtain⟨Cb,Fb,Zb⟩:=bcell Bb;(try simp only[szs] at Zb);try (first|obtain⟨Ya,Yb,Yc,Yd⟩:=lts4 Zb|obtain⟨Ya,Yb,Yc⟩:=lts3 Zb|obtain⟨Ya,Yb⟩:=lts2 Zb|have Ya:=lts1 Zb);have hb9:=Ba)|(go_at_call 147;refine(spec_ClassesOk n.mesh n.pa n.pb a1 a2 a3 _ _ _ _ (by exact Kd.C_below Rbr bel) L1 (by exact Kd.C_below Rpa bel) L2 (by exact Kd.C_below Rpb bel) L3).mono ?_;rintro e w1 ⟨rfl,Ba⟩;obtain⟨Ca,Fa,Za⟩:=bcell Ba;(try simp only[szs] at Za);have Bb:=far2;obtain⟨Cb,Fb,Zb⟩:=bcell Bb;(try simp only[szs] at Zb);try (first|obtain⟨Ya,Yb,Yc,Yd⟩:=lts4 Zb|obtain⟨Ya,Yb,Yc⟩:=lts3 Zb|obtain⟨Ya,Yb⟩:=lts2 Zb|have Ya:=lts1 Zb);have hb9:=Ba)|(go_at_call 148;refine(spec_l01In _ _ _ _).mono ?_;rintro e w' ⟨rfl,rfl⟩))
  go_ret
  exact⟨ret_bool (netOk_no7 HT.out).symm,bel⟩
 have HT:=Lib.hid tm
 have HSH:=Lib.hid (shape_mk S0.out S1.out S2.out S3.out S4.out)
 have HC:=Lib.hid hc
 go_enter Tryz.func82,Tryz.ntmps82
 go_wp2_with (first|(go_at_call 93;refine(spec_NodeCount n.mesh.g _).mono ?_;rintro e w1 ⟨rfl,Ba⟩;obtain⟨Ca,Fa,Za⟩:=bcell Ba;(try simp only[szs] at Za);have Bb:=far2;obtain⟨Cb,Fb,Zb⟩:=bcell Bb;(try simp only[szs] at Zb);try (first|obtain⟨Ya,Yb,Yc,Yd⟩:=lts4 Zb|obtain⟨Ya,Yb,Yc⟩:=lts3 Zb|obtain⟨Ya,Yb⟩:=lts2 Zb|have Ya:=lts1 Zb);have hb9:=Ba)|(go_at_call 147;refine(spec_ClassesOk n.mesh n.pa n.pb a1 a2 a3 _ _ _ _ (by exact Kd.C_below Rbr bel) L1 (by exact Kd.C_below Rpa bel) L2 (by exact Kd.C_below Rpb bel) L3).mono ?_;rintro e w1 ⟨rfl,Ba⟩;obtain⟨Ca,Fa,Za⟩:=bcell Ba;(try simp only[szs] at Za);have Bb:=far2;obtain⟨Cb,Fb,Zb⟩:=bcell Bb;(try simp only[szs] at Zb);try (first|obtain⟨Ya,Yb,Yc,Yd⟩:=lts4 Zb|obtain⟨Ya,Yb,Yc⟩:=lts3 Zb|obtain⟨Ya,Yb⟩:=lts2 Zb|have Ya:=lts1 Zb);have hb9:=Ba)|(go_at_call 148;refine(spec_l01In _ _ _ _).mono ?_;rintro e w' ⟨rfl,rfl⟩))
 go_loopw [4] (fun i wr=>∃ k:Nat,i=.int .i64 k∧k≤n.bufs.length∧Hid (∀ j:Nat,j<k→bufOk n.mesh.g j (rl n.bufs j)=true∧inside (ri n.owners j) (-1) 4=true)∧Below (w.alloc (.cells #[.int .i64 n.mesh.g.w,.int .i64 n.mesh.g.h,.slice a1 n.mesh.br.length c1,.slice a2 n.pa.length c2,.slice a3 n.pb.length c3,.slice a4 n.bufs.length c4,.slice a5 n.owners.length c5,.slice a6 n.turns.length c6,.slice a7 n.srcs.length c7,.slice a8 n.arrs.length c8,.int .i64 n.time] 42)).heap.size (w.alloc (.cells #[.int .i64 n.mesh.g.w,.int .i64 n.mesh.g.h,.slice a1 n.mesh.br.length c1,.slice a2 n.pa.length c2,.slice a3 n.pb.length c3,.slice a4 n.bufs.length c4,.slice a5 n.owners.length c5,.slice a6 n.turns.length c6,.slice a7 n.srcs.length c7,.slice a8 n.arrs.length c8,.int .i64 n.time] 42)) wr) (fun i _=>n.bufs.length - (intOf i).toNat)
 case atStart=>exact⟨0,rfl,Nat.zero_le _,Lib.hid fun j h=>absurd h (Nat.not_lt_zero _),bel⟩
 case round=>
  obtain⟨k,rfl,hk,HA,HB⟩:=hrel
  obtain⟨hcr,hfr,hzr⟩:=bcell HB
  simp only[szs] at hzr
  have yy1:=lts1 hzr
  by_cases hlt:k<n.bufs.length
  ·obtain⟨b,off,rfl,hb,Ai,ci,p0,hle,hCi⟩:=rdB_at Rbu k hlt
   obtain⟨z1,z2,z3,z4,z5,z6⟩:=more hb
   have hlo:k<n.owners.length:=by omega
   obtain⟨b5,off5,rfl,hb5,hx5⟩:=rdI_at Row k hlo
   have p5:=hx5 k hlo
   clear hx5
   obtain⟨z7,z8,z9,z10,z11,z12⟩:=more hb5
   have hki:=M9.out _ (rl_mem hlt)
   have i0:(k:Int)<10*nodeCount n.mesh.g:=by omega
   have i1:(k:Int)<(n.bufs.length:Int):=by omega
   have i2:(k:Int)<(n.owners.length:Int):=by omega
   have i3:(0:Int)≤(k:Int):=by omega
   by_cases g1:3<(rl n.bufs k).length
   ·have g1':(3:Int)<((rl n.bufs k).length:Int):=by omega
    go_wp2
    go_ret
    exact⟨ret_bool (netOk_no3 k hlt (bufOk_1 g1)).symm,bel⟩
   have g1':¬ (3:Int)<((rl n.bufs k).length:Int):=by omega
   cases h3:areFl n.mesh.g (rl n.bufs k)
   ·have H3:=Lib.hid h3
    go_wp2_with (go_at_call 149;refine(spec_l15Flits n.mesh.g (rl n.bufs k) Ai ci _ (by exact Kd.C_below hCi bel) hki).mono ?_;rintro e w1 ⟨rfl,Ba⟩;obtain⟨Ca,Fa,Za⟩:=bcell Ba;(try simp only[szs] at Za);have Bb:=far2;obtain⟨Cb,Fb,Zb⟩:=bcell Bb;(try simp only[szs] at Zb);try (first|obtain⟨Ya,Yb,Yc,Yd⟩:=lts4 Zb|obtain⟨Ya,Yb,Yc⟩:=lts3 Zb|obtain⟨Ya,Yb⟩:=lts2 Zb|have Ya:=lts1 Zb);have hb9:=Ba)
    go_ret
    exact⟨ret_bool (netOk_no3 k hlt (bufOk_3 H3.out)).symm,bel⟩
   have H3:=Lib.hid h3
   cases h5:inside (ri n.owners k) (-1) 4
   ·have H5:=Lib.hid h5
    go_wp2_with (first|(go_at_call 149;refine(spec_l15Flits n.mesh.g (rl n.bufs k) Ai ci _ (by exact Kd.C_below hCi bel) hki).mono ?_;rintro e w1 ⟨rfl,Ba⟩;obtain⟨Ca,Fa,Za⟩:=bcell Ba;(try simp only[szs] at Za);have Bb:=far2;obtain⟨Cb,Fb,Zb⟩:=bcell Bb;(try simp only[szs] at Zb);try (first|obtain⟨Ya,Yb,Yc,Yd⟩:=lts4 Zb|obtain⟨Ya,Yb,Yc⟩:=lts3 Zb|obtain⟨Ya,Yb⟩:=lts2 Zb|have Ya:=lts1 Zb);have hb9:=Ba)|(go_at_call 148;refine(spec_l01In _ _ _ _).mono ?_;rintro e w' ⟨rfl,rfl⟩))
    go_ret
    exact⟨ret_bool (netOk_no5 k hlo H5.out).symm,bel⟩
   have H5:=Lib.hid h5
   go_wp2_with (first|(go_at_call 149;refine(spec_l15Flits n.mesh.g (rl n.bufs k) Ai ci _ (by exact Kd.C_below hCi bel) hki).mono ?_;rintro e w1 ⟨rfl,Ba⟩;obtain⟨Ca,Fa,Za⟩:=bcell Ba;(try simp only[szs] at Za);have Bb:=far2;obtain⟨Cb,Fb,Zb⟩:=bcell Bb;(try simp only[szs] at Zb);try (first|obtain⟨Ya,Yb,Yc,Yd⟩:=lts4 Zb|obtain⟨Ya,Yb,Yc⟩:=lts3 Zb|obtain⟨Ya,Yb⟩:=lts2 Zb|have Ya:=lts1 Zb);have hb9:=Ba)|(go_at_call 148;refine(spec_l01In _ _ _ _).mono ?_;rintro e w' ⟨rfl,rfl⟩))
   have hb0:=Bb
   clear Ba hb9
   go_loopw [6] (fun i wr=>∃ x:Nat,i=.int .i64 x∧x≤(rl n.bufs k).length∧Hid (∀ j:Nat,j<x→clsIs k (rl n.bufs k) j)∧Below w1.heap.size w1 wr) (fun i _=>(rl n.bufs k).length - (intOf i).toNat)
   case atStart=>exact⟨0,rfl,Nat.zero_le _,Lib.hid fun j h=>absurd h (Nat.not_lt_zero _),bw_refl _⟩
   case round=>
    obtain⟨x,rfl,hx,HX,HBi⟩:=hrel
    obtain⟨hci,hfi,hzi⟩:=bcell HBi
    by_cases hlx:x<(rl n.bufs k).length
    ·obtain⟨b7,off7,rfl,hb7,r0,r1,r2,r3,r4⟩:=rdFl_at hCi x hlx
     obtain⟨z13,z14,z15,z16,z17,z18⟩:=more hb7
     have z19:b7<w1.heap.size:=by omega
     have z20:b7<wr.heap.size:=by omega
     have j1:(x:Int)<((rl n.bufs k).length:Int):=by omega
     by_cases hq:clsIs k (rl n.bufs k) x
     ·have HQ:=Lib.hid hq
      unfold clsIs at hq
      have f2:((rf (rl n.bufs k) x).cls != (k:Int) % 2)=false:=bne_eq_false_iff_eq.2 (by rw[hq,mod2])
      clear hq
      go_wp2
      go_roundw
      case rel=>exact⟨x+1,by go_num,by omega,Lib.hid (upto HX.out HQ.out),bel⟩
      case measure=>simp[intOf];omega
     ·have HQ:=Lib.hid hq
      unfold clsIs at hq
      have f2:((rf (rl n.bufs k) x).cls != (k:Int) % 2)=true:=bne_iff_ne.2 (by rw[mod2];exact hq)
      clear hq
      go_wp2
      go_ret
      exact⟨ret_bool (netOk_no3 k hlt (bufOk_6 x hlx HQ.out)).symm,bel⟩
    ·have j1:¬ (x:Int)<((rl n.bufs k).length:Int):=by omega
     go_wp2
     go_roundw
     case rel=>exact⟨k+1,by go_num,by omega,Lib.hid (upto HA.out ⟨bufOk_5 g1 H3.out (fun j hj=>HX.out j (by omega)),H5.out⟩),bel⟩
     case measure=>simp[intOf];omega
  ·have i0:¬ (k:Int)<10*nodeCount n.mesh.g:=by omega
   have HBU:Hid (∀ j:Nat,j<n.bufs.length→bufOk n.mesh.g j (rl n.bufs j)=true):=Lib.hid fun j hj=>(HA.out j (by omega)).1
   have HOW:Hid (∀ j:Nat,j<n.owners.length→inside (ri n.owners j) (-1) 4=true):=Lib.hid fun j hj=>(HA.out j (by omega)).2
   go_wp2
   go_loopw [7] (fun i wr=>∃ k:Nat,i=.int .i64 k∧k≤n.turns.length∧Hid (∀ j:Nat,j<k→inside (ri n.turns j) 0 9=true)∧Below (w.alloc (.cells #[.int .i64 n.mesh.g.w,.int .i64 n.mesh.g.h,.slice a1 n.mesh.br.length c1,.slice a2 n.pa.length c2,.slice a3 n.pb.length c3,.slice a4 n.bufs.length c4,.slice a5 n.owners.length c5,.slice a6 n.turns.length c6,.slice a7 n.srcs.length c7,.slice a8 n.arrs.length c8,.int .i64 n.time] 42)).heap.size (w.alloc (.cells #[.int .i64 n.mesh.g.w,.int .i64 n.mesh.g.h,.slice a1 n.mesh.br.length c1,.slice a2 n.pa.length c2,.slice a3 n.pb.length c3,.slice a4 n.bufs.length c4,.slice a5 n.owners.length c5,.slice a6 n.turns.length c6,.slice a7 n.srcs.length c7,.slice a8 n.arrs.length c8,.int .i64 n.time] 42)) wr) (fun i _=>n.turns.length - (intOf i).toNat)
   case atStart=>exact⟨0,rfl,Nat.zero_le _,Lib.hid fun j h=>absurd h (Nat.not_lt_zero _),bel⟩
   case round=>
    clear HA HB hcr hfr hzr yy1 hlt i0 hk
    obtain⟨k,rfl,hk,HA,HB⟩:=hrel
    obtain⟨hcr,hfr,hzr⟩:=bcell HB
    simp only[szs] at hzr
    have yy1:=lts1 hzr
    by_cases hlt:k<n.turns.length
    ·obtain⟨b,off,rfl,hb,hx⟩:=rdI_at Rtu k hlt
     have p6:=hx k hlt
     clear hx
     obtain⟨z1,z2,z3,z4,z5,z6⟩:=more hb
     have i0:(k:Int)<5*nodeCount n.mesh.g:=by omega
     have i1:(k:Int)<(n.turns.length:Int):=by omega
     cases h5:inside (ri n.turns k) 0 9
     ·have H5:=Lib.hid h5
      go_wp2_with (go_at_call 148;refine(spec_l01In _ _ _ _).mono ?_;rintro e w' ⟨rfl,rfl⟩)
      go_ret
      exact⟨ret_bool (netOk_no6 k hlt H5.out).symm,bel⟩
     ·have H5:=Lib.hid h5
      go_wp2_with (go_at_call 148;refine(spec_l01In _ _ _ _).mono ?_;rintro e w' ⟨rfl,rfl⟩)
      go_roundw
      case rel=>exact⟨k+1,by go_num,by omega,Lib.hid (upto HA.out H5.out),bel⟩
      case measure=>simp[intOf];omega
    ·have i0:¬ (k:Int)<5*nodeCount n.mesh.g:=by omega
     have HTU:Hid (∀ j:Nat,j<n.turns.length→inside (ri n.turns j) 0 9=true):=Lib.hid fun j hj=>HA.out j (by omega)
     go_wp2
     go_loopw [8] (fun i wr=>∃ k:Nat,i=.int .i64 k∧k≤n.srcs.length∧Hid (∀ j:Nat,j<k→srcOk n.mesh.g (rl n.srcs j)=true)∧Below (w.alloc (.cells #[.int .i64 n.mesh.g.w,.int .i64 n.mesh.g.h,.slice a1 n.mesh.br.length c1,.slice a2 n.pa.length c2,.slice a3 n.pb.length c3,.slice a4 n.bufs.length c4,.slice a5 n.owners.length c5,.slice a6 n.turns.length c6,.slice a7 n.srcs.length c7,.slice a8 n.arrs.length c8,.int .i64 n.time] 42)).heap.size (w.alloc (.cells #[.int .i64 n.mesh.g.w,.int .i64 n.mesh.g.h,.slice a1 n.mesh.br.length c1,.slice a2 n.pa.length c2,.slice a3 n.pb.length c3,.slice a4 n.bufs.length c4,.slice a5 n.owners.length c5,.slice a6 n.turns.length c6,.slice a7 n.srcs.length c7,.slice a8 n.arrs.length c8,.int .i64 n.time] 42)) wr) (fun i _=>n.srcs.length - (intOf i).toNat)
     case atStart=>exact⟨0,rfl,Nat.zero_le _,Lib.hid fun j h=>absurd h (Nat.not_lt_zero _),bel⟩
     case round=>
      clear HA HB hcr hfr hzr yy1 hlt i0 hk
      obtain⟨k,rfl,hk,HA,HB⟩:=hrel
      obtain⟨hcr,hfr,hzr⟩:=bcell HB
      simp only[szs] at hzr
      have yy1:=lts1 hzr
      by_cases hlt:k<n.srcs.length
      ·obtain⟨b,off,rfl,hb,Ai,ci,p0,hle,hCi⟩:=rdB_at Rso k hlt
       obtain⟨z1,z2,z3,z4,z5,z6⟩:=more hb
       have hki:=M10.out _ (rl_mem hlt)
       have i0:(k:Int)<nodeCount n.mesh.g:=by omega
       have i1:(k:Int)<(n.srcs.length:Int):=by omega
       have i3:(0:Int)≤(k:Int):=by omega
       have x0:(w.alloc (.cells #[.int .i64 n.mesh.g.w,.int .i64 n.mesh.g.h,.slice a1 n.mesh.br.length c1,.slice a2 n.pa.length c2,.slice a3 n.pb.length c3,.slice a4 n.bufs.length c4,.slice a5 n.owners.length c5,.slice a6 n.turns.length c6,.slice (some ⟨b,off,none⟩) n.srcs.length c7,.slice a8 n.arrs.length c8,.int .i64 n.time] 42)).cell? ⟨w.heap.size,0,none⟩=some (.int .i64 n.mesh.g.w):=(Box.new w _ #[.int .i64 n.mesh.g.w,.int .i64 n.mesh.g.h,.slice a1 n.mesh.br.length c1,.slice a2 n.pa.length c2,.slice a3 n.pb.length c3,.slice a4 n.bufs.length c4,.slice a5 n.owners.length c5,.slice a6 n.turns.length c6,.slice (some ⟨b,off,none⟩) n.srcs.length c7,.slice a8 n.arrs.length c8,.int .i64 n.time] 42 rfl).get 0
       have x1:(w.alloc (.cells #[.int .i64 n.mesh.g.w,.int .i64 n.mesh.g.h,.slice a1 n.mesh.br.length c1,.slice a2 n.pa.length c2,.slice a3 n.pb.length c3,.slice a4 n.bufs.length c4,.slice a5 n.owners.length c5,.slice a6 n.turns.length c6,.slice (some ⟨b,off,none⟩) n.srcs.length c7,.slice a8 n.arrs.length c8,.int .i64 n.time] 42)).cell? ⟨w.heap.size,1,none⟩=some (.int .i64 n.mesh.g.h):=(Box.new w _ #[.int .i64 n.mesh.g.w,.int .i64 n.mesh.g.h,.slice a1 n.mesh.br.length c1,.slice a2 n.pa.length c2,.slice a3 n.pb.length c3,.slice a4 n.bufs.length c4,.slice a5 n.owners.length c5,.slice a6 n.turns.length c6,.slice (some ⟨b,off,none⟩) n.srcs.length c7,.slice a8 n.arrs.length c8,.int .i64 n.time] 42 rfl).get 1
       have x7:(w.alloc (.cells #[.int .i64 n.mesh.g.w,.int .i64 n.mesh.g.h,.slice a1 n.mesh.br.length c1,.slice a2 n.pa.length c2,.slice a3 n.pb.length c3,.slice a4 n.bufs.length c4,.slice a5 n.owners.length c5,.slice a6 n.turns.length c6,.slice (some ⟨b,off,none⟩) n.srcs.length c7,.slice a8 n.arrs.length c8,.int .i64 n.time] 42)).cell? ⟨w.heap.size,8,none⟩=some (.slice (some ⟨b,off,none⟩) n.srcs.length c7):=(Box.new w _ #[.int .i64 n.mesh.g.w,.int .i64 n.mesh.g.h,.slice a1 n.mesh.br.length c1,.slice a2 n.pa.length c2,.slice a3 n.pb.length c3,.slice a4 n.bufs.length c4,.slice a5 n.owners.length c5,.slice a6 n.turns.length c6,.slice (some ⟨b,off,none⟩) n.srcs.length c7,.slice a8 n.arrs.length c8,.int .i64 n.time] 42 rfl).get 8
       by_cases g1:60<(rl n.srcs k).length
       ·have g1':(60:Int)<((rl n.srcs k).length:Int):=by omega
        go_wp2_with fail
        refine wp_region_far ((w.alloc (.cells #[.int .i64 n.mesh.g.w,.int .i64 n.mesh.g.h,.slice a1 n.mesh.br.length c1,.slice a2 n.pa.length c2,.slice a3 n.pb.length c3,.slice a4 n.bufs.length c4,.slice a5 n.owners.length c5,.slice a6 n.turns.length c6,.slice (some ⟨b,off,none⟩) n.srcs.length c7,.slice a8 n.arrs.length c8,.int .i64 n.time] 42))) (by kernel_rfl) (by kernel_rfl) bel ?_
        have hqc:=far_cell ((w.alloc (.cells #[.int .i64 n.mesh.g.w,.int .i64 n.mesh.g.h,.slice a1 n.mesh.br.length c1,.slice a2 n.pa.length c2,.slice a3 n.pb.length c3,.slice a4 n.bufs.length c4,.slice a5 n.owners.length c5,.slice a6 n.turns.length c6,.slice (some ⟨b,off,none⟩) n.srcs.length c7,.slice a8 n.arrs.length c8,.int .i64 n.time] 42)))
        have hqf:=far_frozen ((w.alloc (.cells #[.int .i64 n.mesh.g.w,.int .i64 n.mesh.g.h,.slice a1 n.mesh.br.length c1,.slice a2 n.pa.length c2,.slice a3 n.pb.length c3,.slice a4 n.bufs.length c4,.slice a5 n.owners.length c5,.slice a6 n.turns.length c6,.slice (some ⟨b,off,none⟩) n.srcs.length c7,.slice a8 n.arrs.length c8,.int .i64 n.time] 42)))
        repeat (first|go_big_quiet_step (fail)|quiet_step (fail))
        refine wpQuiet_nil ?_
        intro wq hbq
        clear hqc hqf
        obtain⟨hcq,hfq,hzq⟩:=bcell hbq
        try simp only[szs] at hzq
        go_wp2
        go_ret
        exact⟨ret_bool (netOk_no4 k hlt (srcOk_1 g1)).symm,bel⟩
       have g1':¬ (60:Int)<((rl n.srcs k).length:Int):=by omega
       cases h3:areFl n.mesh.g (rl n.srcs k)
       ·have H3:=Lib.hid h3
        go_wp2_with fail
        refine wp_region_far ((w.alloc (.cells #[.int .i64 n.mesh.g.w,.int .i64 n.mesh.g.h,.slice a1 n.mesh.br.length c1,.slice a2 n.pa.length c2,.slice a3 n.pb.length c3,.slice a4 n.bufs.length c4,.slice a5 n.owners.length c5,.slice a6 n.turns.length c6,.slice (some ⟨b,off,none⟩) n.srcs.length c7,.slice a8 n.arrs.length c8,.int .i64 n.time] 42))) (by kernel_rfl) (by kernel_rfl) bel ?_
        have hqc:=far_cell ((w.alloc (.cells #[.int .i64 n.mesh.g.w,.int .i64 n.mesh.g.h,.slice a1 n.mesh.br.length c1,.slice a2 n.pa.length c2,.slice a3 n.pb.length c3,.slice a4 n.bufs.length c4,.slice a5 n.owners.length c5,.slice a6 n.turns.length c6,.slice (some ⟨b,off,none⟩) n.srcs.length c7,.slice a8 n.arrs.length c8,.int .i64 n.time] 42)))
        have hqf:=far_frozen ((w.alloc (.cells #[.int .i64 n.mesh.g.w,.int .i64 n.mesh.g.h,.slice a1 n.mesh.br.length c1,.slice a2 n.pa.length c2,.slice a3 n.pb.length c3,.slice a4 n.bufs.length c4,.slice a5 n.owners.length c5,.slice a6 n.turns.length c6,.slice (some ⟨b,off,none⟩) n.srcs.length c7,.slice a8 n.arrs.length c8,.int .i64 n.time] 42)))
        repeat (first|go_big_quiet_step (first|(go_at_call 149;exact far_call (Calls.says (spec_l15Flits n.mesh.g (rl n.srcs k) Ai ci _ (by exact Kd.C_below (by exact Kd.C_below hCi bel) (Far.h _)) hki) (congrArg Value.bool H3.out))))|quiet_step (first|(go_at_call 149;exact far_call (Calls.says (spec_l15Flits n.mesh.g (rl n.srcs k) Ai ci _ (by exact Kd.C_below (by exact Kd.C_below hCi bel) (Far.h _)) hki) (congrArg Value.bool H3.out)))))
        refine wpQuiet_nil ?_
        intro wq hbq
        clear hqc hqf
        obtain⟨hcq,hfq,hzq⟩:=bcell hbq
        try simp only[szs] at hzq
        go_wp2
        go_ret
        exact⟨ret_bool (netOk_no4 k hlt (srcOk_2 H3.out)).symm,bel⟩
       ·have H3:=Lib.hid h3
        go_wp2_with fail
        refine wp_region_far ((w.alloc (.cells #[.int .i64 n.mesh.g.w,.int .i64 n.mesh.g.h,.slice a1 n.mesh.br.length c1,.slice a2 n.pa.length c2,.slice a3 n.pb.length c3,.slice a4 n.bufs.length c4,.slice a5 n.owners.length c5,.slice a6 n.turns.length c6,.slice (some ⟨b,off,none⟩) n.srcs.length c7,.slice a8 n.arrs.length c8,.int .i64 n.time] 42))) (by kernel_rfl) (by kernel_rfl) bel ?_
        have hqc:=far_cell ((w.alloc (.cells #[.int .i64 n.mesh.g.w,.int .i64 n.mesh.g.h,.slice a1 n.mesh.br.length c1,.slice a2 n.pa.length c2,.slice a3 n.pb.length c3,.slice a4 n.bufs.length c4,.slice a5 n.owners.length c5,.slice a6 n.turns.length c6,.slice (some ⟨b,off,none⟩) n.srcs.length c7,.slice a8 n.arrs.length c8,.int .i64 n.time] 42)))
        have hqf:=far_frozen ((w.alloc (.cells #[.int .i64 n.mesh.g.w,.int .i64 n.mesh.g.h,.slice a1 n.mesh.br.length c1,.slice a2 n.pa.length c2,.slice a3 n.pb.length c3,.slice a4 n.bufs.length c4,.slice a5 n.owners.length c5,.slice a6 n.turns.length c6,.slice (some ⟨b,off,none⟩) n.srcs.length c7,.slice a8 n.arrs.length c8,.int .i64 n.time] 42)))
        repeat (first|go_big_quiet_step (first|(go_at_call 149;exact far_call (Calls.says (spec_l15Flits n.mesh.g (rl n.srcs k) Ai ci _ (by exact Kd.C_below (by exact Kd.C_below hCi bel) (Far.h _)) hki) (congrArg Value.bool H3.out))))|quiet_step (first|(go_at_call 149;exact far_call (Calls.says (spec_l15Flits n.mesh.g (rl n.srcs k) Ai ci _ (by exact Kd.C_below (by exact Kd.C_below hCi bel) (Far.h _)) hki) (congrArg Value.bool H3.out)))))
        refine wpQuiet_nil ?_
        intro wq hbq
        clear hqc hqf
        obtain⟨hcq,hfq,hzq⟩:=bcell hbq
        try simp only[szs] at hzq
        go_wp2
        go_roundw
        case rel=>exact⟨k+1,by go_num,by omega,Lib.hid (upto HA.out (srcOk_3 g1 H3.out)),bel⟩
        case measure=>simp[intOf];omega
      ·have i0:¬ (k:Int)<nodeCount n.mesh.g:=by omega
       have HE:=Lib.hid (netOk_eq HC.out HSH.out HBU.out (fun j hj=>HA.out j (by omega)))
       go_wp2
       go_ret
       exact⟨ret_bool (by rw[HE.out,allI_true HOW.out,allI_true HTU.out,HT.out];rfl),bel⟩
theorem tab_place {n:Net} {a i:Int} (h:At n a i) (h0:0<(bufOf n a i).length) (c:Int) :
    0≤a*nodeCount n.mesh.g∧a*nodeCount n.mesh.g≤240∧0≤a*nodeCount n.mesh.g+(rf (bufOf n a i) 0).dst∧a*nodeCount n.mesh.g+(rf (bufOf n a i) 0).dst<((tabOf n.pa n.pb c).length:Int)∧0≤(rf (bufOf n a i) 0).dst∧(rf (bufOf n a i) 0).dst≤15:=by
  have h1:=(h.buf0 h0).1
  have h2:=(entry_in (ok_tab h.ok c) h.nd h1).1
  rw[sized_iff] at h2
  obtain⟨p1,p2,p3,p4⟩:=entry_place h.nd h1
  have h3:=isNode_iff.1 h1
  have:=count_le n.mesh.g
  omega
set_option maxHeartbeats 8000000 in
set_option maxRecDepth 100000 in
theorem spec_l17Wanted (n:Net) (q:NA) (a i:Int) (w:World) (hr:NetR 153 w n q) (ha:At n a i) :
  Calls Tryz.prog 230 #[.agg (netCells n q),.int .i64 a,.int .i64 i] w fun e w'=>e=.returned (.int .i64 (wantedN n a i))∧Below w.heap.size w w':=by
 obtain⟨a1,a2,a3,a4,a5,a6,a7,a8,c1,c2,c3,c4,c5,c6,c7,c8⟩:=q;obtain⟨Rbr,Rpa,Rpb,Rbu,Row,Rtu,Rso,Rar,L1,L2,L3,L4,L5,L6,L7,L8,L9,L10,L11⟩:=hr;have M9:=Lib.hid L9;have M10:=Lib.hid L10;have M11:=Lib.hid L11;clear L9 L10 L11;dsimp only [netCells] at *
 have HA:=Lib.hid ha
 obtain⟨a0,a15,j0,j1,j2,j3,j4,j5⟩:=ha.idx
 have i0:=ha.i0
 have i9:=ha.i9
 obtain⟨n0,n1⟩:=count_le n.mesh.g
 clear ha
 by_cases hl:(bufOf n a i).length=0
 ·have HW:=Lib.hid (wanted_1 hl)
  unfold bufOf at hl
  obtain⟨b,off,rfl,hb,Ai,ci,p0,hle,hCi⟩:=rdB_int Rbu (10*a+i) j0 j1
  obtain⟨l,el⟩:∃ l,rl n.bufs (10*a+i)=l:=⟨_,rfl⟩
  rw[el] at hl p0 hle hCi
  have hl':((l.length:Int) == 0)=true:=by simp[hl]
  have HL:=Lib.hid hl
  clear hl el
  go_enter Tryz.func230,Tryz.ntmps230
  go_wp2
  go_ret
  exact⟨ret_int HW.out.symm,bel⟩
 have hl0:0<(bufOf n a i).length:=by omega
 have HT:=Lib.hid (tab_place HA.out hl0)
 clear hl
 cases hh:(rf (bufOf n a i) 0).head
 ·have HW:=Lib.hid (wanted_3 hl0 hh)
  unfold bufOf at hl0 hh
  obtain⟨b,off,rfl,hb,Ai,ci,p0,hle,hCi⟩:=rdB_int Rbu (10*a+i) j0 j1
  obtain⟨b1,o1,rfl,Ba,q0,q1,q2,q3,q4⟩:=rdFl_0 hCi hl0
  obtain⟨l,el⟩:∃ l,rl n.bufs (10*a+i)=l:=⟨_,rfl⟩
  rw[el] at hl0 hh p0 hle q0 q1 q2 q3 q4
  have hl':((l.length:Int) == 0)=false:=by simp;intro h;simp[h] at hl0
  have hl1:(0:Int)<(l.length:Int):=by omega
  rw[hh] at q3
  clear hCi el hh
  go_enter Tryz.func230,Tryz.ntmps230
  go_wp2
  go_loopw [10] (fun j wr=>∃ k:Nat,j=.int .i64 k∧k≤5∧Hid (∀ j:Nat,j<k→¬ ownAt n a j (i % 2)=i / 2)∧Below (w.alloc (.cells #[.int .i64 n.mesh.g.w,.int .i64 n.mesh.g.h,.slice a1 n.mesh.br.length c1,.slice a2 n.pa.length c2,.slice a3 n.pb.length c3,.slice (some ⟨b,off,none⟩) n.bufs.length c4,.slice a5 n.owners.length c5,.slice a6 n.turns.length c6,.slice a7 n.srcs.length c7,.slice a8 n.arrs.length c8,.int .i64 n.time] 42)).heap.size (w.alloc (.cells #[.int .i64 n.mesh.g.w,.int .i64 n.mesh.g.h,.slice a1 n.mesh.br.length c1,.slice a2 n.pa.length c2,.slice a3 n.pb.length c3,.slice (some ⟨b,off,none⟩) n.bufs.length c4,.slice a5 n.owners.length c5,.slice a6 n.turns.length c6,.slice a7 n.srcs.length c7,.slice a8 n.arrs.length c8,.int .i64 n.time] 42)) wr) (fun j _=>5 - (intOf j).toNat)
  case atStart=>exact⟨0,rfl,Nat.zero_le _,Lib.hid fun j h=>absurd h (Nat.not_lt_zero _),bel⟩
  case round=>
   obtain⟨k,rfl,hk,HK,HB⟩:=hrel
   obtain⟨hcr,hfr,hzr⟩:=bcell HB
   simp only[szs] at hzr
   have yy1:=lts1 hzr
   by_cases hlt:k<5
   ·have k0:(k:Int)≤4:=by omega
    have m0:0≤10*a+2*(k:Int)+i % 2:=by omega
    have m1:10*a+2*(k:Int)+i % 2<(n.owners.length:Int):=by omega
    obtain⟨b5,o5,rfl,hb5,r0⟩:=rdI_int Row (10*a+2*(k:Int)+i % 2) m0 m1
    obtain⟨z1,z2,z3,z4,z5,z6⟩:=more hb5
    obtain⟨o,ho⟩:∃ o,ri n.owners (10*a+2*(k:Int)+i % 2)=o:=⟨_,rfl⟩
    rw[ho] at r0
    have HO:=Lib.hid (show ownAt n a k (i % 2)=o from ho)
    clear ho
    by_cases e1:o=i / 2
    ·have f1:(o == i / 2)=true:=beq_iff_eq.2 e1
     have E1:=Lib.hid (ownPort_yes (n:=n) (a:=a) (i:=i) k hlt (HO.out.trans e1) HK.out)
     clear e1
     go_wp2
     go_ret
     exact⟨ret_int (by rw[HW.out,E1.out]),bel⟩
    ·have f1:(o == i / 2)=false:=beq_eq_false_iff_ne.2 e1
     have E1:Hid (¬ ownAt n a k (i % 2)=i / 2):=Lib.hid (fun h=>e1 (HO.out.symm.trans h))
     clear e1
     go_wp2
     go_roundw
     case rel=>exact⟨k+1,by go_num,by omega,Lib.hid (upto HK.out E1.out),bel⟩
     case measure=>simp[intOf];omega
   ·have k0:¬ (k:Int)≤4:=by omega
    go_wp2
    go_ret
    exact⟨ret_int (by rw[HW.out,ownPort_no (fun j hj=>HK.out j (by omega))]),bel⟩
 ·have HW:=Lib.hid (wanted_2 hl0 hh)
  unfold bufOf at hl0 hh
  obtain⟨b,off,rfl,hb,Ai,ci,p0,hle,hCi⟩:=rdB_int Rbu (10*a+i) j0 j1
  obtain⟨b1,o1,rfl,Ba,q0,q1,q2,q3,q4⟩:=rdFl_0 hCi hl0
  obtain⟨l,el⟩:∃ l,rl n.bufs (10*a+i)=l:=⟨_,rfl⟩
  unfold bufOf at HW HT
  rw[el] at hl0 hh p0 hle q0 q1 q2 q3 q4 HW HT
  have hl':((l.length:Int) == 0)=false:=by simp;intro h;simp[h] at hl0
  have hl1:(0:Int)<(l.length:Int):=by omega
  rw[hh] at q3
  clear hCi el hh
  obtain⟨d,ed⟩:∃ d,(rf l 0).dst=d:=⟨_,rfl⟩
  rw[ed] at q1 HW HT
  clear ed
  obtain⟨z1,z2,z3,z4,z5,z6⟩:=more Ba
  by_cases hc:i % 2=1
  ·have Ca:(i % 2 == 1)=true:=beq_iff_eq.2 hc
   obtain⟨t0,t1,t2,t3,t4,t5⟩:=HT.out 1
   have HV:Hid (wantedN n a i=ri n.pb (a*nodeCount n.mesh.g+d)):=Lib.hid (by rw[HW.out,hc];rfl)
   rw[show tabOf n.pa n.pb 1=n.pb from rfl] at t3
   obtain⟨b5,o5,rfl,hb5,r0⟩:=rdI_int Rpb (a*nodeCount n.mesh.g+d) t2 t3
   obtain⟨z7,z8,z9,z10,z11,z12⟩:=more hb5
   have x4:(w.alloc (.cells #[.int .i64 n.mesh.g.w,.int .i64 n.mesh.g.h,.slice a1 n.mesh.br.length c1,.slice a2 n.pa.length c2,.slice (some ⟨b5,o5,none⟩) n.pb.length c3,.slice (some ⟨b,off,none⟩) n.bufs.length c4,.slice a5 n.owners.length c5,.slice a6 n.turns.length c6,.slice a7 n.srcs.length c7,.slice a8 n.arrs.length c8,.int .i64 n.time] 42)).cell? ⟨w.heap.size,4,none⟩=some (.slice (some ⟨b5,o5,none⟩) n.pb.length c3):=(Box.new w _ #[.int .i64 n.mesh.g.w,.int .i64 n.mesh.g.h,.slice a1 n.mesh.br.length c1,.slice a2 n.pa.length c2,.slice (some ⟨b5,o5,none⟩) n.pb.length c3,.slice (some ⟨b,off,none⟩) n.bufs.length c4,.slice a5 n.owners.length c5,.slice a6 n.turns.length c6,.slice a7 n.srcs.length c7,.slice a8 n.arrs.length c8,.int .i64 n.time] 42 rfl).get 4
   clear hc
   go_enter Tryz.func230,Tryz.ntmps230
   go_wp2_with (go_at_call 93;refine(spec_NodeCount n.mesh.g _).mono ?_;rintro e w1 ⟨rfl,Ba⟩;obtain⟨Ca,Fa,Za⟩:=bcell Ba;(try simp only[szs] at Za);have Bb:=far2;obtain⟨Cb,Fb,Zb⟩:=bcell Bb;(try simp only[szs] at Zb);try (first|obtain⟨Ya,Yb,Yc,Yd⟩:=lts4 Zb|obtain⟨Ya,Yb,Yc⟩:=lts3 Zb|obtain⟨Ya,Yb⟩:=lts2 Zb|have Ya:=lts1 Zb);have hb9:=Ba)
   refine wp_region_far ((w.alloc (.cells #[.int .i64 n.mesh.g.w,.int .i64 n.mesh.g.h,.slice a1 n.mesh.br.length c1,.slice a2 n.pa.length c2,.slice (some ⟨b5,o5,none⟩) n.pb.length c3,.slice (some ⟨b,off,none⟩) n.bufs.length c4,.slice a5 n.owners.length c5,.slice a6 n.turns.length c6,.slice a7 n.srcs.length c7,.slice a8 n.arrs.length c8,.int .i64 n.time] 42))) (by kernel_rfl) (by kernel_rfl) bel ?_
   have hqc:=far_cell ((w.alloc (.cells #[.int .i64 n.mesh.g.w,.int .i64 n.mesh.g.h,.slice a1 n.mesh.br.length c1,.slice a2 n.pa.length c2,.slice (some ⟨b5,o5,none⟩) n.pb.length c3,.slice (some ⟨b,off,none⟩) n.bufs.length c4,.slice a5 n.owners.length c5,.slice a6 n.turns.length c6,.slice a7 n.srcs.length c7,.slice a8 n.arrs.length c8,.int .i64 n.time] 42)))
   have hqf:=far_frozen ((w.alloc (.cells #[.int .i64 n.mesh.g.w,.int .i64 n.mesh.g.h,.slice a1 n.mesh.br.length c1,.slice a2 n.pa.length c2,.slice (some ⟨b5,o5,none⟩) n.pb.length c3,.slice (some ⟨b,off,none⟩) n.bufs.length c4,.slice a5 n.owners.length c5,.slice a6 n.turns.length c6,.slice a7 n.srcs.length c7,.slice a8 n.arrs.length c8,.int .i64 n.time] 42)))
   repeat (first|go_big_quiet_step (fail)|quiet_step (fail))
   refine wpQuiet_nil ?_
   intro wq hbq
   clear hqc hqf
   obtain⟨hcq,hfq,hzq⟩:=bcell hbq
   try simp only[szs] at hzq
   go_wp2
   go_ret
   exact⟨ret_int HV.out.symm,bel⟩
  ·have Ca:(i % 2 == 1)=false:=beq_eq_false_iff_ne.2 hc
   obtain⟨t0,t1,t2,t3,t4,t5⟩:=HT.out 0
   have HV:Hid (wantedN n a i=ri n.pa (a*nodeCount n.mesh.g+d)):=Lib.hid (by rw[HW.out,show tabOf n.pa n.pb (i % 2)=n.pa from if_neg hc];rfl)
   rw[show tabOf n.pa n.pb 0=n.pa from rfl] at t3
   obtain⟨b5,o5,rfl,hb5,r0⟩:=rdI_int Rpa (a*nodeCount n.mesh.g+d) t2 t3
   obtain⟨z7,z8,z9,z10,z11,z12⟩:=more hb5
   have x3:(w.alloc (.cells #[.int .i64 n.mesh.g.w,.int .i64 n.mesh.g.h,.slice a1 n.mesh.br.length c1,.slice (some ⟨b5,o5,none⟩) n.pa.length c2,.slice a3 n.pb.length c3,.slice (some ⟨b,off,none⟩) n.bufs.length c4,.slice a5 n.owners.length c5,.slice a6 n.turns.length c6,.slice a7 n.srcs.length c7,.slice a8 n.arrs.length c8,.int .i64 n.time] 42)).cell? ⟨w.heap.size,3,none⟩=some (.slice (some ⟨b5,o5,none⟩) n.pa.length c2):=(Box.new w _ #[.int .i64 n.mesh.g.w,.int .i64 n.mesh.g.h,.slice a1 n.mesh.br.length c1,.slice (some ⟨b5,o5,none⟩) n.pa.length c2,.slice a3 n.pb.length c3,.slice (some ⟨b,off,none⟩) n.bufs.length c4,.slice a5 n.owners.length c5,.slice a6 n.turns.length c6,.slice a7 n.srcs.length c7,.slice a8 n.arrs.length c8,.int .i64 n.time] 42 rfl).get 3
   clear hc
   go_enter Tryz.func230,Tryz.ntmps230
   go_wp2_with (go_at_call 93;refine(spec_NodeCount n.mesh.g _).mono ?_;rintro e w1 ⟨rfl,Ba⟩;obtain⟨Ca,Fa,Za⟩:=bcell Ba;(try simp only[szs] at Za);have Bb:=far2;obtain⟨Cb,Fb,Zb⟩:=bcell Bb;(try simp only[szs] at Zb);try (first|obtain⟨Ya,Yb,Yc,Yd⟩:=lts4 Zb|obtain⟨Ya,Yb,Yc⟩:=lts3 Zb|obtain⟨Ya,Yb⟩:=lts2 Zb|have Ya:=lts1 Zb);have hb9:=Ba)
   refine wp_region_far ((w.alloc (.cells #[.int .i64 n.mesh.g.w,.int .i64 n.mesh.g.h,.slice a1 n.mesh.br.length c1,.slice (some ⟨b5,o5,none⟩) n.pa.length c2,.slice a3 n.pb.length c3,.slice (some ⟨b,off,none⟩) n.bufs.length c4,.slice a5 n.owners.length c5,.slice a6 n.turns.length c6,.slice a7 n.srcs.length c7,.slice a8 n.arrs.length c8,.int .i64 n.time] 42))) (by kernel_rfl) (by kernel_rfl) bel ?_
   have hqc:=far_cell ((w.alloc (.cells #[.int .i64 n.mesh.g.w,.int .i64 n.mesh.g.h,.slice a1 n.mesh.br.length c1,.slice (some ⟨b5,o5,none⟩) n.pa.length c2,.slice a3 n.pb.length c3,.slice (some ⟨b,off,none⟩) n.bufs.length c4,.slice a5 n.owners.length c5,.slice a6 n.turns.length c6,.slice a7 n.srcs.length c7,.slice a8 n.arrs.length c8,.int .i64 n.time] 42)))
   have hqf:=far_frozen ((w.alloc (.cells #[.int .i64 n.mesh.g.w,.int .i64 n.mesh.g.h,.slice a1 n.mesh.br.length c1,.slice (some ⟨b5,o5,none⟩) n.pa.length c2,.slice a3 n.pb.length c3,.slice (some ⟨b,off,none⟩) n.bufs.length c4,.slice a5 n.owners.length c5,.slice a6 n.turns.length c6,.slice a7 n.srcs.length c7,.slice a8 n.arrs.length c8,.int .i64 n.time] 42)))
   repeat (first|go_big_quiet_step (fail)|quiet_step (fail))
   refine wpQuiet_nil ?_
   intro wq hbq
   clear hqc hqf
   obtain⟨hcq,hfq,hzq⟩:=bcell hbq
   try simp only[szs] at hzq
   go_wp2
   go_ret
   exact⟨ret_int HV.out.symm,bel⟩
set_option maxHeartbeats 4000000 in
set_option maxRecDepth 100000 in
theorem spec_l17Room (n:Net) (q:NA) (a p c:Int) (w:World) (hr:NetR 153 w n q) (ok:netOk n=true) (nd:isNode n.mesh.g a=true) (p0:0≤p) (p4:p≤4) (g0:0≤c) (g1:c≤1) :
    Calls Tryz.prog 231 #[.agg (netCells n q),.int .i64 a,.int .i64 p,.int .i64 c] w fun e w'=>e=.returned (.bool (roomN n a p c))∧Below w.heap.size w w':=by
  obtain⟨_,_,_,a15⟩:=node_bounds nd
  have a0:=(isNode_iff.1 nd).1
  have OK:=Lib.hid ok
  have ND:=Lib.hid nd
  clear nd ok
  obtain⟨a1,a2,a3,a4,a5,a6,a7,a8,c1,c2,c3,c4,c5,c6,c7,c8⟩:=q;obtain⟨Rbr,Rpa,Rpb,Rbu,Row,Rtu,Rso,Rar,L1,L2,L3,L4,L5,L6,L7,L8,L9,L10,L11⟩:=hr;have M9:=Lib.hid L9;have M10:=Lib.hid L10;have M11:=Lib.hid L11;clear L9 L10 L11;dsimp only [netCells] at *
  by_cases h4:p=4
  · subst h4
    go_enter Tryz.func231,Tryz.ntmps231
    go_wp2
    go_ret
    exact⟨rfl,bel⟩
  have p3:p≤3:=by omega
  have e4:(p == 4)=false:=beq_eq_false_iff_ne.2 h4
  clear h4 p4
  cases hl:live n.mesh (4*a+p)
  · have HN:=Lib.hid (room_no (c:=c) p3 hl)
    go_enter Tryz.func231,Tryz.ntmps231
    go_wp2_with (go_at_call 237;refine(spec_l03Has n.mesh (4*a+p) a1 _ _ (by exact Kd.C_below Rbr bel) L1).mono ?_;rintro e w1 ⟨rfl,Ba⟩;obtain⟨Ca,Fa,Za⟩:=bcell Ba;(try simp only[szs] at Za);have Bb:=far2;obtain⟨Cb,Fb,Zb⟩:=bcell Bb;(try simp only[szs] at Zb);try (first|obtain⟨Ya,Yb,Yc,Yd⟩:=lts4 Zb|obtain⟨Ya,Yb,Yc⟩:=lts3 Zb|obtain⟨Ya,Yb⟩:=lts2 Zb|have Ya:=lts1 Zb);have hb9:=Ba)
    go_ret
    exact⟨ret_bool HN.out.symm,bel⟩
  · have HN:=Lib.hid (room_yes (c:=c) p3 hl)
    obtain⟨_,v0,v1,v2,v3,v4,v5⟩:=behind_idx (c:=c) OK.out p0 p3 hl g0 g1
    unfold behindI at HN v4 v5
    obtain⟨t,ht⟩:∃ t,nextNode n.mesh.g a p=t:=⟨_,rfl⟩
    rw[ht] at HN v0 v1 v4 v5
    have HX:=Lib.hid ht
    clear ht
    obtain⟨s,hs⟩:∃ s,opposite p=s:=⟨_,rfl⟩
    rw[hs] at HN v2 v3 v4 v5
    have HS:=Lib.hid hs
    clear hs
    obtain⟨b,off,rfl,hb,Ai,ci,r0,hle,hCi⟩:=rdB_int Rbu (10*t+2*s+c) v4 v5
    obtain⟨z1,z2,z3,z4,z5,z6⟩:=more hb
    have x5:(w.alloc (.cells #[.int .i64 n.mesh.g.w,.int .i64 n.mesh.g.h,.slice a1 n.mesh.br.length c1,.slice a2 n.pa.length c2,.slice a3 n.pb.length c3,.slice (some ⟨b,off,none⟩) n.bufs.length c4,.slice a5 n.owners.length c5,.slice a6 n.turns.length c6,.slice a7 n.srcs.length c7,.slice a8 n.arrs.length c8,.int .i64 n.time] 42)).cell? ⟨w.heap.size,5,none⟩=some (.slice (some ⟨b,off,none⟩) n.bufs.length c4):=(Box.new w _ #[.int .i64 n.mesh.g.w,.int .i64 n.mesh.g.h,.slice a1 n.mesh.br.length c1,.slice a2 n.pa.length c2,.slice a3 n.pb.length c3,.slice (some ⟨b,off,none⟩) n.bufs.length c4,.slice a5 n.owners.length c5,.slice a6 n.turns.length c6,.slice a7 n.srcs.length c7,.slice a8 n.arrs.length c8,.int .i64 n.time] 42 rfl).get 5
    obtain⟨l,el⟩:∃ l,rl n.bufs (10*t+2*s+c)=l:=⟨_,rfl⟩
    rw[el] at HN r0
    clear el hCi hle
    go_enter Tryz.func231,Tryz.ntmps231
    go_wp2_with (first|(go_at_call 237;refine(spec_l03Has n.mesh (4*a+p) a1 _ _ (by exact Kd.C_below Rbr bel) L1).mono ?_;rintro e w1 ⟨rfl,Ba⟩;obtain⟨Ca,Fa,Za⟩:=bcell Ba;(try simp only[szs] at Za);have Bb:=far2;obtain⟨Cb,Fb,Zb⟩:=bcell Bb;(try simp only[szs] at Zb);try (first|obtain⟨Ya,Yb,Yc,Yd⟩:=lts4 Zb|obtain⟨Ya,Yb,Yc⟩:=lts3 Zb|obtain⟨Ya,Yb⟩:=lts2 Zb|have Ya:=lts1 Zb);have hb9:=Ba)|(go_at_call 177;refine(spec_NextNode n.mesh.g a p _).mono ?_;rintro e w1 ⟨he,Ba⟩;rw[HX.out] at he;subst he;obtain⟨Ca,Fa,Za⟩:=bcell Ba;(try simp only[szs] at Za);have Bb:=far2;obtain⟨Cb,Fb,Zb⟩:=bcell Bb;(try simp only[szs] at Zb);try (first|obtain⟨Ya,Yb,Yc,Yd⟩:=lts4 Zb|obtain⟨Ya,Yb,Yc⟩:=lts3 Zb|obtain⟨Ya,Yb⟩:=lts2 Zb|have Ya:=lts1 Zb);have hb9:=Ba))
    refine wp_region_far ((w.alloc (.cells #[.int .i64 n.mesh.g.w,.int .i64 n.mesh.g.h,.slice a1 n.mesh.br.length c1,.slice a2 n.pa.length c2,.slice a3 n.pb.length c3,.slice (some ⟨b,off,none⟩) n.bufs.length c4,.slice a5 n.owners.length c5,.slice a6 n.turns.length c6,.slice a7 n.srcs.length c7,.slice a8 n.arrs.length c8,.int .i64 n.time] 42))) (by kernel_rfl) (by kernel_rfl) bel ?_
    have hqc:=far_cell ((w.alloc (.cells #[.int .i64 n.mesh.g.w,.int .i64 n.mesh.g.h,.slice a1 n.mesh.br.length c1,.slice a2 n.pa.length c2,.slice a3 n.pb.length c3,.slice (some ⟨b,off,none⟩) n.bufs.length c4,.slice a5 n.owners.length c5,.slice a6 n.turns.length c6,.slice a7 n.srcs.length c7,.slice a8 n.arrs.length c8,.int .i64 n.time] 42)))
    have hqf:=far_frozen ((w.alloc (.cells #[.int .i64 n.mesh.g.w,.int .i64 n.mesh.g.h,.slice a1 n.mesh.br.length c1,.slice a2 n.pa.length c2,.slice a3 n.pb.length c3,.slice (some ⟨b,off,none⟩) n.bufs.length c4,.slice a5 n.owners.length c5,.slice a6 n.turns.length c6,.slice a7 n.srcs.length c7,.slice a8 n.arrs.length c8,.int .i64 n.time] 42)))
    repeat (first|go_big_quiet_step ((go_at_call 178;exact far_call (Calls.says (spec_Opposite p _) (congrArg (Value.int .i64) HS.out))))|quiet_step ((go_at_call 178;exact far_call (Calls.says (spec_Opposite p _) (congrArg (Value.int .i64) HS.out)))))
    refine wpQuiet_nil ?_
    intro wq hbq
    clear hqc hqf
    obtain⟨hcq,hfq,hzq⟩:=bcell hbq
    try simp only[szs] at hzq
    go_wp2
    go_ret
    exact⟨ret_bool (by rw[HN.out];first|rfl|exact decide_eq_decide.2 (by omega)),bel⟩
set_option maxHeartbeats 8000000 in
set_option maxRecDepth 100000 in
theorem spec_l17Request (n:Net) (q:NA) (a i p:Int) (w:World) (hr:NetR 153 w n q) (ha:At n a i) (p0:0≤p) (p4:p≤4) :
    Calls Tryz.prog 208 #[.agg (netCells n q),.int .i64 a,.int .i64 i,.int .i64 p] w fun e w'=>e=.returned (.bool (requestN n a i p))∧Below w.heap.size w w':=by
  have R:=Lib.hid hr
  have HA:=Lib.hid ha
  obtain⟨a0,a15,j0,j1,j2,j3,j4,j5⟩:=ha.idx
  have i0:=ha.i0
  have i9:=ha.i9
  clear ha
  obtain⟨a1,a2,a3,a4,a5,a6,a7,a8,c1,c2,c3,c4,c5,c6,c7,c8⟩:=q;obtain⟨Rbr,Rpa,Rpb,Rbu,Row,Rtu,Rso,Rar,L1,L2,L3,L4,L5,L6,L7,L8,L9,L10,L11⟩:=hr;have M9:=Lib.hid L9;have M10:=Lib.hid L10;have M11:=Lib.hid L11;clear L9 L10 L11;dsimp only [netCells] at *
  by_cases h1:wantedN n a i=p
  case neg=>
    have HN:=Lib.hid (request_no1 h1)
    have f1:(wantedN n a i != p)=true:=bne_iff_ne.2 h1
    clear h1
    go_enter Tryz.func208,Tryz.ntmps208
    go_wp2_with (go_at_call 230;refine(spec_l17Wanted n _ a i _ (R.out.below bel) HA.out).mono ?_;rintro e w1 ⟨rfl,Ba⟩;obtain⟨Ca,Fa,Za⟩:=bcell Ba;(try simp only[szs] at Za);have Bb:=far2;obtain⟨Cb,Fb,Zb⟩:=bcell Bb;(try simp only[szs] at Zb);try (first|obtain⟨Ya,Yb,Yc,Yd⟩:=lts4 Zb|obtain⟨Ya,Yb,Yc⟩:=lts3 Zb|obtain⟨Ya,Yb⟩:=lts2 Zb|have Ya:=lts1 Zb);have hb9:=Ba)
    go_ret
    exact⟨ret_bool HN.out.symm,bel⟩
  have H1:=Lib.hid h1
  have hl0:=wanted_len (n:=n) (a:=a) (i:=i) (by omega)
  have f1:(p != p)=false:=bne_eq_false_iff_eq.2 rfl
  clear h1
  cases h2:roomN n a p (i % 2)
  · have H2:=Lib.hid h2
    go_enter Tryz.func208,Tryz.ntmps208
    go_wp2_with (first|(go_at_call 230;refine(spec_l17Wanted n _ a i _ (R.out.below bel) HA.out).mono ?_;rintro e w1 ⟨he,Ba⟩;rw[H1.out] at he;subst he;obtain⟨Ca,Fa,Za⟩:=bcell Ba;(try simp only[szs] at Za);have Bb:=far2;obtain⟨Cb,Fb,Zb⟩:=bcell Bb;(try simp only[szs] at Zb);try (first|obtain⟨Ya,Yb,Yc,Yd⟩:=lts4 Zb|obtain⟨Ya,Yb,Yc⟩:=lts3 Zb|obtain⟨Ya,Yb⟩:=lts2 Zb|have Ya:=lts1 Zb);have hb9:=Ba)|(go_at_call 231;refine(spec_l17Room n _ a p (i % 2) _ (R.out.below bel) HA.out.ok HA.out.nd p0 p4 (by omega) (by omega)).mono ?_;rintro e w1 ⟨rfl,Ba⟩;obtain⟨Ca,Fa,Za⟩:=bcell Ba;(try simp only[szs] at Za);have Bb:=far2;obtain⟨Cb,Fb,Zb⟩:=bcell Bb;(try simp only[szs] at Zb);try (first|obtain⟨Ya,Yb,Yc,Yd⟩:=lts4 Zb|obtain⟨Ya,Yb,Yc⟩:=lts3 Zb|obtain⟨Ya,Yb⟩:=lts2 Zb|have Ya:=lts1 Zb);have hb9:=Ba))
    go_ret
    exact⟨ret_bool (by rw[request_no2 H2.out]),bel⟩
  have H2:=Lib.hid h2
  have m0:0≤10*a+2*p+i % 2:=by omega
  have m1:10*a+2*p+i % 2<(n.owners.length:Int):=by omega
  obtain⟨b5,o5,rfl,hb5,r0⟩:=rdI_int Row (10*a+2*p+i % 2) m0 m1
  obtain⟨z1,z2,z3,z4,z5,z6⟩:=more hb5
  obtain⟨o,ho⟩:∃ o,ri n.owners (10*a+2*p+i % 2)=o:=⟨_,rfl⟩
  rw[ho] at r0
  have HO:=Lib.hid (show ownAt n a p (i % 2)=o from ho)
  clear ho
  cases hh:(rf (bufOf n a i) 0).head
  all_goals
    have HQ:=Lib.hid hh
    unfold bufOf at hl0 hh
    obtain⟨b,off,rfl,hb,Ai,ci,u0,hle,hCi⟩:=rdB_int Rbu (10*a+i) j0 j1
    obtain⟨b1,o1,rfl,Ba,q0,q1,q2,q3,q4⟩:=rdFl_0 hCi hl0
    obtain⟨z7,z8,z9,z10,z11,z12⟩:=more hb
    obtain⟨z13,z14,z15,z16,z17,z18⟩:=more Ba
    obtain⟨l,el⟩:∃ l,rl n.bufs (10*a+i)=l:=⟨_,rfl⟩
    rw[el] at hl0 hh u0 hle q0 q1 q2 q3 q4
    have hl1:(0:Int)<(l.length:Int):=by omega
    rw[hh] at q3
    clear hCi el hh
    go_enter Tryz.func208,Tryz.ntmps208
    go_wp2_with (first|(go_at_call 230;refine(spec_l17Wanted n _ a i _ (R.out.below bel) HA.out).mono ?_;rintro e w1 ⟨he,Ba⟩;rw[H1.out] at he;subst he;obtain⟨Ca,Fa,Za⟩:=bcell Ba;(try simp only[szs] at Za);have Bb:=far2;obtain⟨Cb,Fb,Zb⟩:=bcell Bb;(try simp only[szs] at Zb);try (first|obtain⟨Ya,Yb,Yc,Yd⟩:=lts4 Zb|obtain⟨Ya,Yb,Yc⟩:=lts3 Zb|obtain⟨Ya,Yb⟩:=lts2 Zb|have Ya:=lts1 Zb);have hb9:=Ba)|(go_at_call 231;refine(spec_l17Room n _ a p (i % 2) _ (R.out.below bel) HA.out.ok HA.out.nd p0 p4 (by omega) (by omega)).mono ?_;rintro e w1 ⟨rfl,Ba⟩;obtain⟨Ca,Fa,Za⟩:=bcell Ba;(try simp only[szs] at Za);have Bb:=far2;obtain⟨Cb,Fb,Zb⟩:=bcell Bb;(try simp only[szs] at Zb);try (first|obtain⟨Ya,Yb,Yc,Yd⟩:=lts4 Zb|obtain⟨Ya,Yb,Yc⟩:=lts3 Zb|obtain⟨Ya,Yb⟩:=lts2 Zb|have Ya:=lts1 Zb);have hb9:=Ba))
    go_ret
    exact⟨ret_bool (by first|rw[request_1 H1.out H2.out HQ.out,HO.out]|rw[request_2 H1.out H2.out HQ.out,HO.out]),bel⟩
def Blk (W:World) (b:Nat) (t:TypeId) (cs:Array Value):Prop:=W.heap[b]?=some (.cells cs t (0,0))
theorem Blk.lt {W:World} {b:Nat} {t:TypeId} {cs:Array Value} (h:Blk W b t cs):b<W.heap.size:=(Array.getElem?_eq_some_iff.1 h).1
theorem Blk.cell {W:World} {b:Nat} {t:TypeId} {cs:Array Value} (h:Blk W b t cs) (o:Nat):W.cell? ⟨b,o,none⟩=cs[o]?:=by
  unfold World.cell?
  rw[show W.heap[b]?=_ from h]
  rfl
theorem Blk.frozen {W:World} {b:Nat} {t:TypeId} {cs:Array Value} (h:Blk W b t cs) (o:Nat):W.frozen? ⟨b,o,none⟩=false:=by
  unfold World.frozen?
  rw[show W.heap[b]?=_ from h]
  simp
theorem Blk.new (W:World) (b:Nat) (t:TypeId) (cs:Array Value) (hb:b=W.heap.size):Blk (W.alloc (.cells cs t)) b t cs:=by
  subst hb
  exact(show (W.heap.push _)[W.heap.size]?=_ from Array.getElem?_push_size)
theorem Blk.below {W W1:World} {b:Nat} {t:TypeId} {cs:Array Value} (h:Blk W b t cs) (hb:Below W.heap.size W W1):Blk W1 b t cs:=(hb.block b h.lt).trans h
theorem Blk.grown {W W1:World} {b:Nat} {t:TypeId} {cs:Array Value} {row:Option Nat} (h:Blk W b t cs) (hg:W.grownBy W1 row) (hne:some b≠row):Blk W1 b t cs:=(hg.block b h.lt hne).trans h
theorem Blk.set {W:World} {b:Nat} {t:TypeId} {cs:Array Value} (h:Blk W b t cs) (i:Nat) (v:Value):Blk (W.setCell ⟨b,i,none⟩ v) b t (cs.setIfInBounds i v):=by
  show (W.heap.modify b _)[b]?=_
  have hlt:=h.lt
  have h2:W.heap[b]?=some (.cells cs t (0,0)):=h
  rw[Array.getElem?_eq_getElem hlt] at h2
  injection h2 with h2
  rw[Array.getElem?_eq_getElem (by rw[Array.size_modify];exact hlt),Array.getElem_modify_self,h2]
  rfl
def uCells (us:List Bool):Array Value:=(us.map Value.bool).toArray
theorem uCells_get {us:List Bool} {o:Nat} (h:o<us.length):(uCells us)[o]?=some (.bool (us.getD o false)):=by
  simp[uCells,h,List.getD_eq_getElem?_getD]
theorem uCells_set (us:List Bool) (i:Nat) (b:Bool):(uCells us).setIfInBounds i (.bool b)=uCells (us.set i b):=by
  simp[uCells,List.map_set]
def UB (t:TypeId) (w:World) (gm:Nat) (us:List Bool):Prop:=us.length=5∧Blk w gm t (uCells us)
theorem UB.cell {t:TypeId} {w:World} {gm:Nat} {us:List Bool} (h:UB t w gm us) {x:Int} (h0:0≤x) (h9:x≤9):w.cell? ⟨gm,(x / 2).toNat,none⟩=some (.bool (usedAt us x)):=by
  rw[h.2.cell,uCells_get (by have:=h.1;omega)]
  rfl
theorem UB.below {t:TypeId} {w w1:World} {gm:Nat} {us:List Bool} (h:UB t w gm us) (hb:Below w.heap.size w w1):UB t w1 gm us:=⟨h.1,h.2.below hb⟩
theorem UB.grown {t:TypeId} {w w1:World} {gm:Nat} {us:List Bool} {row:Option Nat} (h:UB t w gm us) (hg:w.grownBy w1 row) (hne:some gm≠row):UB t w1 gm us:=⟨h.1,h.2.grown hg hne⟩

set_option maxHeartbeats 1000000 in
theorem impl_FirstFrom (l:List Int) (t:Int) (A:Option Addr) (c:Nat) (w:World) (hr:Kd.C (Kd.int .i64) w A l.length l) (hn:l.length≤2097152) (hs:smallL l) (t0:0≤t) (t9:t≤9) :
    Calls Tryz.prog 214 #[.slice A l.length c,.int .i64 t] w fun e w'=>e=.returned (.int .i64 (firstFrom l t))∧w=w':=by
  have ia:allI l.length (fun i=>inside (ri l i) 0 9)=true:=allI_true (fun i hi=>inside_iff.2 (hs i hi))
  have it:inside t 0 9=true:=inside_iff.2 ⟨t0,t9⟩
  have HS:=Lib.hid hs
  clear hs
  go_enter Tryz.func214,Tryz.ntmps214
  go_wp2_with (first|(go_at_call 117;refine(impl_areInside l 0 9 A c _ hr hn).mono ?_;rintro e w' ⟨rfl,rfl⟩)|(go_at_call 68;refine(impl_inside _ _ _ _).mono ?_;rintro e w' ⟨rfl,rfl⟩))
  go_loop [5,18] (fun b i=>∃ k:Nat,i=.int .i64 k∧k≤l.length∧b=.int .i64 (firstTo l t k)) (fun _ i=>l.length - (intOf i).toNat)
  case atStart=>exact⟨0,rfl,Nat.zero_le _,rfl⟩
  case round=>
    obtain⟨k,rfl,hk,rfl⟩:=hrel
    obtain⟨f0,f1⟩:=firstTo_range (turn:=t) HS.out k hk
    by_cases hlt:k<l.length
    · obtain⟨b,off,rfl,hb,hx⟩:=rdI_at hr k hlt
      have hxk:=hx k hlt
      clear hx
      obtain⟨x0,x9⟩:=HS.out k hlt
      have hsucc:=firstTo_succ l t k hlt
      obtain⟨x,ex⟩:∃ x,ri l k=x:=⟨_,rfl⟩
      obtain⟨best,eb⟩:∃ b,firstTo l t k=b:=⟨_,rfl⟩
      rw[ex] at x0 x9 hxk hsucc
      rw[eb] at f0 f1 hsucc
      have HSU:=Lib.hid hsucc
      clear hsucc ex
      rw[eb]
      clear eb
      by_cases hb0:best<0
      · have HV:=Lib.hid (better_1 (turn:=t) (x:=x) hb0)
        go_wp2
        go_round
        case rel=>exact⟨k+1,by go_num,by omega,by rw[HSU.out,HV.out]⟩
        case measure=>simp[intOf];omega
      · by_cases hd:(x - t+10) % 10<(best - t+10) % 10
        · have HV:=Lib.hid (better_2 hb0 hd)
          go_wp2
          go_round
          case rel=>exact⟨k+1,by go_num,by omega,by rw[HSU.out,HV.out]⟩
          case measure=>simp[intOf];omega
        · have HV:=Lib.hid (better_3 hb0 hd)
          go_wp2
          go_round
          case rel=>exact⟨k+1,by go_num,by omega,by rw[HSU.out,HV.out]⟩
          case measure=>simp[intOf];omega
    · obtain rfl:k=l.length:=by omega
      go_wp2
      go_ret
      exact⟨rfl,rfl⟩
set_option maxHeartbeats 1000000 in
theorem spec_FirstFrom (l:List Int) (t:Int) (A:Option Addr) (c:Nat) (w:World) (hr:Kd.C (Kd.int .i64) w A l.length l) (hn:l.length≤2097152) (hs:smallL l) (t0:0≤t) (t9:t≤9) :
    Calls Tryz.prog 209 #[.slice A l.length c,.int .i64 t] w fun e w'=>e=.returned (.int .i64 (firstFrom l t))∧w=w':=by
  have it:inside t 0 9=true:=inside_iff.2 ⟨t0,t9⟩
  have HS:=Lib.hid hs
  clear hs
  go_enter Tryz.func209,Tryz.ntmps209
  go_wp2
  go_loop [5,6] (fun b i=>∃ k:Nat,i=.int .i64 k∧k≤l.length∧b=.int .i64 (firstTo l t k)) (fun _ i=>l.length - (intOf i).toNat)
  case atStart=>exact⟨0,rfl,Nat.zero_le _,rfl⟩
  case round=>
    obtain⟨k,rfl,hk,rfl⟩:=hrel
    obtain⟨f0,f1⟩:=firstTo_range (turn:=t) HS.out k hk
    by_cases hlt:k<l.length
    · obtain⟨b,off,rfl,hb,hx⟩:=rdI_at hr k hlt
      have hxk:=hx k hlt
      clear hx
      obtain⟨x0,x9⟩:=HS.out k hlt
      have hsucc:=firstTo_succ l t k hlt
      obtain⟨x,ex⟩:∃ x,ri l k=x:=⟨_,rfl⟩
      obtain⟨best,eb⟩:∃ b,firstTo l t k=b:=⟨_,rfl⟩
      rw[ex] at x0 x9 hxk hsucc
      rw[eb] at f0 f1 hsucc
      have HSU:=Lib.hid hsucc
      have ix:inside x 0 9=true:=inside_iff.2 ⟨x0,x9⟩
      clear hsucc ex
      rw[eb]
      clear eb
      by_cases hb0:best<0
      · have HV:=Lib.hid (better_1 (turn:=t) (x:=x) hb0)
        go_wp2_with (go_at_call 148;refine(spec_l01In _ _ _ _).mono ?_;rintro e w' ⟨rfl,rfl⟩)
        go_round
        case rel=>exact⟨k+1,by go_num,by omega,by rw[HSU.out,HV.out]⟩
        case measure=>simp[intOf];omega
      · by_cases hd:(x - t+10) % 10<(best - t+10) % 10
        · have HV:=Lib.hid (better_2 hb0 hd)
          go_wp2_with (go_at_call 148;refine(spec_l01In _ _ _ _).mono ?_;rintro e w' ⟨rfl,rfl⟩)
          go_round
          case rel=>exact⟨k+1,by go_num,by omega,by rw[HSU.out,HV.out]⟩
          case measure=>simp[intOf];omega
        · have HV:=Lib.hid (better_3 hb0 hd)
          go_wp2_with (go_at_call 148;refine(spec_l01In _ _ _ _).mono ?_;rintro e w' ⟨rfl,rfl⟩)
          go_round
          case rel=>exact⟨k+1,by go_num,by omega,by rw[HSU.out,HV.out]⟩
          case measure=>simp[intOf];omega
    · obtain rfl:k=l.length:=by omega
      go_wp2
      go_ret
      exact⟨rfl,rfl⟩
theorem impl_grants_1 (us:List Bool) (x:Int) (gm:Nat) (w:World) (hu:UB 213 w gm us) (h0:0≤x) (h9:x≤9) :
    Calls Tryz.prog 213 #[.int .i64 x,.pointer (some ⟨gm,0,none⟩)] w fun e w'=>e=.returned (.bool (usedAt us x))∧w=w':=by
  have hc:=hu.cell h0 h9
  have hl:=hu.2.lt
  have i0:0≤x / 2:=by omega
  have i1:x / 2<5:=by omega
  clear hu
  go_enter Tryz.func213,Tryz.ntmps213
  go_wp2
  go_ret
  exact⟨rfl,rfl⟩
def IdxU (us:List Bool) (l:List Int) (r:Int):Prop:=(r=-1∧∀ j:Nat,j<l.length→usedAt us (ri l j)=false)∨∃ k:Nat,r=k∧k<l.length∧usedAt us (ri l k)=true∧∀ j:Nat,j<k→usedAt us (ri l j)=false
set_option maxHeartbeats 1000000 in
theorem slices_IndexFunc_I (l:List Int) (us:List Bool) (gm:Nat) (A:Option Addr) (c:Nat) (w:World) (hr:Kd.C (Kd.int .i64) w A l.length l) (hn:l.length≤2097152) (hs:smallL l) (hu:UB 213 w gm us) :
    Calls Tryz.prog 217 #[.slice A l.length c,.func (.func 213) #[] #[.pointer (some ⟨gm,0,none⟩)]] w fun e w'=>(∃ r,e=.returned (.int .i64 r)∧Hid (IdxU us l r))∧w=w':=by
  have HS:=Lib.hid hs
  have HU:=Lib.hid hu
  clear hs hu
  go_enter Tryz.func217,Tryz.ntmps217
  go_wp2
  go_loop [8] (fun i=>∃ j:Nat,i=.int .i64 j∧j≤l.length∧Hid (∀ q:Nat,q<j→usedAt us (ri l q)=false)) (fun i=>l.length - (intOf i).toNat)
  case atStart=>exact⟨0,rfl,Nat.zero_le _,Lib.hid fun x h=>absurd h (Nat.not_lt_zero _)⟩
  case round=>
    obtain⟨j,rfl,hj,HA⟩:=hrel
    by_cases hlt:j<l.length
    · obtain⟨b,off,rfl,hb,hx⟩:=rdI_at hr j hlt
      have hxk:=hx j hlt
      clear hx
      obtain⟨x0,x9⟩:=HS.out j hlt
      cases e:usedAt us (ri l j)
      · have E:=Lib.hid e
        go_wp2_with (go_at_call 213;refine(impl_grants_1 us (ri l j) gm _ HU.out x0 x9).mono ?_;rintro e w' ⟨rfl,rfl⟩)
        go_round
        case rel=>exact⟨j+1,by go_num,by omega,Lib.hid (upto HA.out E.out)⟩
        case measure=>simp[intOf];omega
      · have E:=Lib.hid e
        go_wp2_with (go_at_call 213;refine(impl_grants_1 us (ri l j) gm _ HU.out x0 x9).mono ?_;rintro e w' ⟨rfl,rfl⟩)
        go_ret
        exact⟨⟨_,rfl,Lib.hid (.inr ⟨j,rfl,hlt,E.out,HA.out⟩)⟩,rfl⟩
    · go_wp2
      go_ret
      exact⟨⟨_,rfl,Lib.hid (.inl ⟨rfl,fun x hx=>HA.out x (by omega)⟩)⟩,rfl⟩
theorem R_clear {e base g n cap i m:Nat} {W:World} {xs:List Int} (h:Kd.R (Kd.int .i64) e W base (fun _=>True) (.slice (some ⟨g,0,none⟩) n cap) xs) (hi:i≤xs.length) (hm:i+m=xs.length) (z:Value) :
    Kd.R (Kd.int .i64) e (W.setCells g i (List.replicate m z)) base (fun _=>True) (.slice (some ⟨g,0,none⟩) i cap) (xs.take i)∧W.grownBy (W.setCells g i (List.replicate m z)) (some g):=by
  obtain⟨s1,s2,s3,s4⟩:=setCells_same g (List.replicate m z) i W
  refine⟨?_,⟨s1,s2,s3,by rw[s4];exact Nat.le_refl _,fun k _ hk=>setCells_far _ _ k (fun he=>hk (by rw[he]))⟩⟩
  have h2:=Kd.R_take h hi
  have hcap:n≤cap∧n=xs.length:=by
    have h3:=Kd.R_row h
    exact⟨h3.2.1,h3.1⟩
  obtain⟨h0,inner,⟨h1,ho⟩,hr⟩:=h2
  refine⟨fun _ _=>trivial,inner,⟨h1,?_⟩,hr⟩
  rcases ho with ⟨he,_⟩|⟨g',cap',cur,he,hb,hh,hnc,hcm,hcs,ht⟩
  · cases he
  injection he with ea _ ec
  injection ea with ea
  injection ea with eg
  subst eg
  subst ec
  have hsz:(Kd.int .i64).sz=1:=rfl
  have hl:(xs.take i).length=i:=by rw[List.length_take];omega
  rw[hsz,Nat.mul_one] at hcs
  rw[hsz,Nat.mul_one,hl] at ht
  obtain⟨cur',c1,c2,c3⟩:=setCells_row (List.replicate m z) i W cur hh (by rw[List.length_replicate];omega)
  refine .inr ⟨g,cap,cur',by rw[hl],hb,c1,hnc,hcm,by rw[c2,hsz];omega,?_⟩
  rw[c3,←ht,hsz,Nat.mul_one,hl]
  rw[List.append_assoc,List.take_append_of_le_length (by rw[List.length_take,Array.length_toList];omega),List.take_take,Nat.min_self]
set_option maxHeartbeats 4000000 in
theorem slices_DeleteFunc (l:List Int) (us:List Bool) (gm:Nat) (A:Option Addr) (c base:Nat) (w:World) (HO0:Kd.R (Kd.int .i64) 3 w base (fun _=>True) (.slice A l.length c) l) (hn:l.length≤1000) (hs:smallL l) (hu:UB 213 w gm us) (hgb:gm<base) :
  Calls Tryz.prog 211 #[.slice A l.length c,.func (.func 213) #[] #[.pointer (some ⟨gm,0,none⟩)]] w fun e w'=>(∃ v,e=.returned v∧Kd.R (Kd.int .i64) 3 w' base (fun _=>True) v (l.filter (keepU us)))∧w.grownBy w' (Value.slice A l.length c).ownBlock:=by
 have HS:=Lib.hid hs
 have HU:=Lib.hid hu
 have HR:=Lib.hid HO0
 have hcap:=(Kd.R_row HO0).2.1
 have hwi:=within_R HO0
 have HW:=Lib.hid hwi
 clear hs hu HO0 hwi
 go_enter Tryz.func211,Tryz.ntmps211
 go_wp2_with fail
 refine(slices_IndexFunc_I l us gm A c _ (Kd.R_row HR.out).2.2 (by omega) HS.out HU.out).mono ?_
 rintro e w' ⟨⟨r,rfl,HI⟩,rfl⟩
 rcases HI.out with ⟨rfl,hall⟩|⟨k,rfl,hk,hu1,hbf⟩
 ·have E:Hid (l.filter (keepU us)=l):=Lib.hid (by
   have h1:=keptTo_all (us:=us) (l:=l) l.length (Nat.le_refl _) hall
   unfold keptTo at h1
   rwa [List.take_length] at h1)
  clear hall
  go_wp2
  go_ret
  exact⟨⟨_,rfl,by rw[E.out];exact HR.out⟩,World.grownBy.refl _ _⟩
 ·obtain⟨g,cap,hv,hbg,hgl,cells,HGC⟩:=Kd.R_form HR.out (by omega)
  injection hv with hv1 hv2 hv3
  subst hv1
  subst hv3
  have hgm:some gm≠some g:=fun e=>by injection e with e;omega
  have e1:((k:Int) == -1)=false:=beq_eq_false_iff_ne.2 (by omega)
  have HK1:=Lib.hid (keptTo_no (us:=us) k hk hu1)
  have HK2:=Lib.hid (keptTo_all (us:=us) (l:=l) k (by omega) hbf)
  have zv:∀ w:World,(zeroValue 3).run Tryz.prog w=.ok (.int .i64 0) w:=fun _=>by first|kernel_rfl|simp[zeroValue,go_sem]
  clear HGC hv2 hu1 hbf HI
  go_wp2
  go_loopw [5,6] (fun s5 s6 wr=>∃ (i j:Nat) (dk:List Int),s5=.int .i64 i∧s6=.int .i64 j∧i<j∧j≤l.length∧Hid (i=(keptTo us l j).length)∧Hid (dk.length=l.length)∧Hid ((∀ q:Nat,q<i→ri dk q=ri (keptTo us l j) q)∧∀ q:Nat,j≤q→ri dk q=ri l q)∧Kd.R (Kd.int .i64) 3 wr base (fun _=>True) (.slice (some ⟨g,0,none⟩) l.length c) dk∧w.grownBy wr (some g)) (fun _ s6 _=>l.length - (intOf s6).toNat)
  case atStart=>exact⟨k,k+1,l,rfl,by go_num,by omega,by omega,Lib.hid (by rw[HK1.out,HK2.out,List.length_take];omega),Lib.hid rfl,Lib.hid ⟨fun q hq=>by
    rw[HK1.out,HK2.out]
    have h1:q<(l.take k).length:=by rw[List.length_take];omega
    rw[ri_get _ q h1,ri_get l q (by omega),List.getElem_take],fun _ _=>rfl⟩,HR.out,World.grownBy.refl _ _⟩
  case round=>
   obtain⟨i,j,dk,rfl,rfl,hij,hj,HI,HL,HA,HO,HG⟩:=hrel
   have hil:i<l.length∨i<l.length:=by omega
   have hil:=hil.elim id id
   obtain⟨hxi,hfi⟩:=rowI_cell HO i hil
   have HUR:=Lib.hid (HU.out.grown HG hgm)
   by_cases hlt:j<l.length
   ·obtain⟨hxj,hfj⟩:=rowI_cell HO j hlt
    rw[HA.out.2 j (Nat.le_refl _)] at hxj
    obtain⟨x0,x9⟩:=HS.out j hlt
    have HOH:=Lib.hid HO
    clear HO hfj
    cases e:usedAt us (ri l j)
    ·have HK:=Lib.hid (keptTo_yes j hlt e)
     go_wp2_with (go_at_call 213;refine(impl_grants_1 us (ri l j) gm _ HUR.out x0 x9).mono ?_;rintro e w' ⟨rfl,rfl⟩)
     go_roundw
     case rel=>
      have hset:∀ q:Nat,q<l.length→ri (dk.set i (ri l j)) q=if i=q then ri l j else ri dk q:=fun q hq=>set_get (by have:=HL.out;omega) q (by have:=HL.out;omega)
      refine⟨i+1,j+1,dk.set i (ri l j),by go_num,by go_num,by omega,by omega,Lib.hid (by rw[HK.out,List.length_append];have:=HI.out;simp;omega),Lib.hid (by rw[List.length_set];exact HL.out),Lib.hid ⟨fun q hq=>?_,fun q hq=>?_⟩,rowI_set HOH.out i (ri l j),grown_trans HG (rowI_grown HOH.out i _)⟩
      ·rw[hset q (by omega),HK.out]
       have hI:=HI.out
       by_cases e2:i=q
       ·subst e2
        rw[if_pos rfl,ri_get _ i (by rw[List.length_append];simp;omega),List.getElem_append_right (by omega)]
        simp[←hI]
       ·rw[if_neg e2,HA.out.1 q (by omega),ri_get _ q (by omega),ri_get _ q (by rw[List.length_append];omega),List.getElem_append_left (by omega)]
      ·by_cases hql:q<l.length
       ·rw[hset q hql,if_neg (by omega),HA.out.2 q (by omega)]
       ·have h1:=HL.out
        simp[ri,List.getD_eq_getElem?_getD,h1,hql]
     case measure=>simp[intOf];omega
    ·have HK:=Lib.hid (keptTo_no j hlt e)
     go_wp2_with (go_at_call 213;refine(impl_grants_1 us (ri l j) gm _ HUR.out x0 x9).mono ?_;rintro e w' ⟨rfl,rfl⟩)
     go_roundw
     case rel=>exact⟨i,j+1,dk,rfl,by go_num,by omega,by omega,Lib.hid (by rw[HK.out];exact HI.out),HL,Lib.hid ⟨fun q hq=>by rw[HK.out];exact HA.out.1 q hq,fun q hq=>HA.out.2 q (by omega)⟩,HOH.out,HG⟩
     case measure=>simp[intOf];omega
   ·obtain rfl:j=l.length:=by omega
    have hci:¬ c=i:=by omega
    have hcl:∀ ty,(Builtin.clear_ #[26] ty #[.slice (some ⟨g,i,none⟩) (l.length - i) (c - i)]).run Tryz.prog wr=.ok (.tuple #[]) (wr.setCells g i (List.replicate (l.length - i) (.int .i64 0))):=
     fun ty=>Lib.run_clear_slice wr 26 3 ty (.int .i64 0) Tryz.underlying26 zv rfl rfl g i _ _ (by omega) (fun t ht=>by rw[(rowI_cell HO (i+t) (by omega)).1];rfl) (fun t ht=>(rowI_cell HO (i+t) (by omega)).2)
    have E:Hid (dk.take i=l.filter (keepU us)):=Lib.hid (by
     have h1:keptTo us l l.length=l.filter (keepU us):=by unfold keptTo;rw[List.take_length]
     have h2:=HI.out
     have h3:=HL.out
     have h4:=keptTo_len us l l.length
     rw[←h1]
     refine same_get (by rw[List.length_take];omega) (fun q hq=>?_)
     rw[←HA.out.1 q (by omega),ri_get _ q (by rw[List.length_take];omega),ri_get dk q (by omega),List.getElem_take])
    have HC:=Lib.hid (R_clear (i:=i) (m:=l.length - i) HO (by have:=HL.out;omega) (by have:=HL.out;omega) (.int .i64 0))
    clear HO zv
    go_wp2
    go_ret
    exact⟨⟨_,rfl,by rw[←E.out];exact HC.out.1⟩,grown_trans HG HC.out.2⟩
def gCells (x:Grant):List Value:=[.int .i64 x.node,.int .i64 x.port,.int .i64 x.input]
def kG:Kd Grant:=Kd.flat 3 gCells (fun _=>rfl) (fun x u hu=>by
  simp only[gCells,List.mem_cons,List.not_mem_nil,or_false] at hu
  rcases hu with rfl|rfl|rfl <;> rfl)
def zg:Grant:=⟨0,0,0⟩
def rg (l:List Grant) (i:Int):Grant:=l.getD i.toNat zg
theorem rdG_at {w:World} {A:Option Addr} {l:List Grant} (h:kG.C w A l.length l) (k:Nat) (hk:k<l.length) :
    ∃ b off,A=some ⟨b,off,none⟩∧b<w.heap.size∧w.cell? ⟨b,off+k*3,none⟩=some (.int .i64 (rg l k).node)∧w.cell? ⟨b,off+k*3+1,none⟩=some (.int .i64 (rg l k).port)∧w.cell? ⟨b,off+k*3+2,none⟩=some (.int .i64 (rg l k).input):=by
  obtain⟨b,off,rfl,hb,hx⟩:=rdF_at (n:=3) zg (by omega) h k hk
  exact⟨b,off,rfl,hb,hx k hk 0 _ rfl,hx k hk 1 _ rfl,hx k hk 2 _ rfl⟩
theorem info_G:(Tryz.prog.info? 161).map (fun i=>(i.zero,i.size,i.bytes))=some (some (.agg #[.int .i64 0,.int .i64 0,.int .i64 0]),3,24):=by kernel_rfl
def GotG (w w':World) (xs:List Grant) (e:Ending):Prop:=∃ v,e=.returned v∧kG.R 161 w' w.heap.size (fun _=>True) v xs
theorem GotG.read {w w':World} {xs:List Grant} {e:Ending} (h:GotG w w' xs e):∃ A c,e=.returned (.slice A xs.length c)∧xs.length≤c∧kG.C w' A xs.length xs:=by
  obtain⟨v,rfl,hR⟩:=h
  obtain⟨A,c,rfl,h1,h2⟩:=Kd.R_reads hR
  exact⟨A,c,rfl,h1,h2⟩
section
variable {ops:Array Oper} {rest:List Oper} {o:Oper} {a:Act} {Q:Exit→Act→World→Prop}
theorem app_G {W0 W:World} (hgd:o.guard=none) (s x:Operand)
    (ho:o.op=.call { callee:=.builtin .append,args:=#[s,x],argTypes:=#[139,139] })
    (v:Value) (xs:List Grant) (q:Grant) (hs:a.eval s=v) (hx:a.eval x=.slice (some ⟨W.heap.size,0,none⟩) 1 1)
    (HO:kG.R 161 W W0.heap.size (fun _=>True) v xs) (HB:Below W0.heap.size W0 W) (hl:xs.length≤100000000)
    (h:∀ v1 w1,kG.R 161 w1 W0.heap.size (fun _=>True) v1 (xs++[q])→Below W0.heap.size W0 w1→W.grownBy w1 v.ownBlock→wpList Tryz.prog ops Q rest (a.put o.dst v1) w1) :
    wpList Tryz.prog ops Q (o::rest) a (W.alloc (.cells #[.int .i64 q.node,.int .i64 q.port,.int .i64 q.input] 161)):=
  Kd.R_append kG W0.heap.size hgd s x 139 161 (.agg #[.int .i64 0,.int .i64 0,.int .i64 0]) 24 ho Tryz.underlying139 info_G rfl (by decide) (by omega) v xs q (gCells q) (fun _=>True) (fun _=>False) hs hx rfl (fun _ hk=>hk.elim) (fun _ _=>trivial) HO HB HB.size (by omega) (fun v1 w1 h1 h2 h3 _=>h v1 w1 h1 h2 h3)
theorem apps_G {W0 W:World} (hgd:o.guard=none) (s x:Operand)
    (ho:o.op=.call { callee:=.builtin .append,args:=#[s,x],argTypes:=#[139,139] })
    (v:Value) (xs ys:List Grant) (A:Option Addr) (c:Nat) (hs:a.eval s=v) (hx:a.eval x=.slice A ys.length c)
    (HO:kG.R 161 W W0.heap.size (fun _=>True) v xs) (HR:kG.C W A ys.length ys) (HB:Below W0.heap.size W0 W) (hl:xs.length+ys.length≤100000000)
    (h:∀ v1 w1,kG.R 161 w1 W0.heap.size (fun _=>True) v1 (xs++ys)→Below W0.heap.size W0 w1→wpList Tryz.prog ops Q rest (a.put o.dst v1) w1) :
    wpList Tryz.prog ops Q (o::rest) a W:=
  Kd.R_append_rows kG W0.heap.size hgd s x 139 161 (.agg #[.int .i64 0,.int .i64 0,.int .i64 0]) 24 ho Tryz.underlying139 info_G rfl (by decide) (by omega) v xs ys A ys.length c (fun _=>True) (fun _=>False) hs hx HO HR (fun _ _ h=>h) (fun _ hk=>hk.elim) (fun _ _=>trivial) HB HB.size (by omega) (fun v1 w1 h1 h2 _ _=>h v1 w1 h1 h2)
end
set_option maxHeartbeats 8000000 in
set_option maxRecDepth 100000 in
theorem impl_grants (n:Net) (q:NA) (bx:Nat) (a:Int) (w:World) (hr:NetR 153 w n q) (hx:Box w bx (netCells n q)) (ok:netOk n=true) (nd:isNode n.mesh.g a=true) :
  Calls Tryz.prog 180 #[.pointer (some ⟨bx,0,none⟩),.int .i64 a] w fun e w'=>GotG w w' (grantsN n a) e∧Below w.heap.size w w':=by
 have R:=Lib.hid hr
 have X:=Lib.hid hx
 have OK:=Lib.hid ok
 have ND:=Lib.hid nd
 obtain⟨_,_,_,a15⟩:=node_bounds nd
 have a0:=(isNode_iff.1 nd).1
 clear ok nd
 obtain⟨a1,a2,a3,a4,a5,a6,a7,a8,c1,c2,c3,c4,c5,c6,c7,c8⟩:=q;obtain⟨Rbr,Rpa,Rpb,Rbu,Row,Rtu,Rso,Rar,L1,L2,L3,L4,L5,L6,L7,L8,L9,L10,L11⟩:=hr;have M9:=Lib.hid L9;have M10:=Lib.hid L10;have M11:=Lib.hid L11;clear L9 L10 L11;dsimp only [netCells] at *
 have xl:=hx.lt;have x0:w.cell? ⟨bx,0,none⟩=some (.int .i64 n.mesh.g.w):=hx.get 0;have x1:w.cell? ⟨bx,1,none⟩=some (.int .i64 n.mesh.g.h):=hx.get 1;have x2:w.cell? ⟨bx,2,none⟩=some (.slice a1 n.mesh.br.length c1):=hx.get 2;have x3:w.cell? ⟨bx,3,none⟩=some (.slice a2 n.pa.length c2):=hx.get 3;have x4:w.cell? ⟨bx,4,none⟩=some (.slice a3 n.pb.length c3):=hx.get 4;have x5:w.cell? ⟨bx,5,none⟩=some (.slice a4 n.bufs.length c4):=hx.get 5;have x6:w.cell? ⟨bx,6,none⟩=some (.slice a5 n.owners.length c5):=hx.get 6;have x7:w.cell? ⟨bx,7,none⟩=some (.slice a6 n.turns.length c6):=hx.get 7;have x8:w.cell? ⟨bx,8,none⟩=some (.slice a7 n.srcs.length c7):=hx.get 8;have x9:w.cell? ⟨bx,9,none⟩=some (.slice a8 n.arrs.length c8):=hx.get 9;have x10:w.cell? ⟨bx,10,none⟩=some (.int .i64 n.time):=hx.get 10;clear hx
 go_enter Tryz.func180,Tryz.ntmps180
 go_wp2
 go_loopw [5,7] (fun v i wr=>∃ p:Nat,i=.int .i64 p∧p≤5∧kG.R 161 wr w.heap.size (fun _=>True) v (gst n a p).2∧UB 213 wr (w.heap.size+1) (gst n a p).1∧Below w.heap.size w wr) (fun _ i _=>5 - (intOf i).toNat)
 case atStart=>exact⟨0,rfl,Nat.zero_le _,Kd.R_below (R_empty kG 161 (W0:=w) (W:=w) (Nat.le_refl _)) (bw_alloc _ (bw_refl _)),⟨rfl,Blk.new (w.alloc (.cells #[] 161)) _ _ _ (by rw[World.size_alloc])⟩,bel⟩
 case round=>
  obtain⟨p,rfl,hp,HO,HU,HB⟩:=hrel
  obtain⟨Ao,co,rfl⟩:=Kd.R_slice HO
  have hlen:=gst_len n a p
  have husl:=gst_us n a p
  obtain⟨hcr,hfr,hzr⟩:=bcell HB
  have hul:=HU.2.lt
  by_cases hlt:p<5
  ·have p0:(p:Int)≤4:=by omega
   obtain⟨t0,t1,t2,t3⟩:=turn_range OK.out ND.out p hlt
   obtain⟨b6,o6,rfl,hb6,r6⟩:=rdI_int Rtu (5*a+(p:Int)) t0 t1
   obtain⟨us,eus⟩:∃ us,(gst n a p).1=us:=⟨_,rfl⟩
   obtain⟨k0,k1⟩:=pick_range n a p us
   have hsm:=left_small n a p us
   have hll:=left_len n a p us
   obtain⟨k,hk⟩:∃ k,pick n a p us=k:=⟨_,rfl⟩
   rw[hk] at k0 k1
   rw[eus] at HU husl
   have HK:=Lib.hid hk
   have HE:=Lib.hid (show pick n a p (gst n a p).1=k by rw[eus];exact hk)
   have EUS:=Lib.hid eus
   have HSM:=Lib.hid hsm
   have HUH:=Lib.hid HU
   have HUSL:=Lib.hid husl
   clear hk eus HU hsm husl
   have HWo:=within_R HO
   go_wp2_with fail
   refine(impl_requests n _ bx a p _ (R.out.below bel) (X.out.below bel) OK.out ND.out).mono ?_
   rintro e w1 ⟨hg1,Ba⟩
   obtain⟨v1,rfl,HO1⟩:=hg1
   obtain⟨A1,d1,rfl⟩:=Kd.R_slice HO1
   have HU1:=HUH.out.below Ba
   have HOA:=Kd.R_below HO Ba
   have HB1:=bw_then HB Ba
   have s1:=bw_size Ba
   have HO1H:=Lib.hid HO1
   have w1w:=within_R HO1
   have HAP:=apart_lt HWo w1w (Nat.le_refl _)
   have HOH:=Lib.hid HOA
   have HUH1:=Lib.hid HU1
   clear HUH HO HOA Ba HO1 hcr hfr hzr HU1
   go_wp2_with fail
   refine(slices_DeleteFunc (requestsN n a p) us (w.heap.size+1) A1 d1 wr.heap.size _ HO1H.out (Nat.le_trans (requestsTo_len n a p 10) (by decide)) (smallL_mem (requests_small n a p)) HUH1.out (by omega)).mono ?_
   rintro e w2 ⟨⟨v2,rfl,HO2⟩,hg2⟩
   obtain⟨A2,d2,rfl⟩:=Kd.R_slice HO2
   have s2:=hg2.size
   have HB2:Below w.heap.size w w2:=HB1.grown hg2 (bw_size HB1) (fun k hk=>by have:=w1w k hk;have:=bw_size HB;omega)
   have HU2:=HUH1.out.grown hg2 (fun e=>by have:=w1w _ e.symm;omega)
   have HOA2:=R_grownF HOH.out hg2 HAP
   have HC2:=Lib.hid (Kd.R_row HO2).2.2
   have HU2H:=Lib.hid HU2
   have HO2H:=Lib.hid HOA2
   obtain⟨Cb,Fb,Zb⟩:=bcell HB2
   clear HUH1 HOH HO1H HAP HWo w1w hg2 HO2 HU2 HOA2
   go_wp2_with fail
   refine(impl_FirstFrom ((requestsN n a p).filter (keepU us)) (ri n.turns (5*a+(p:Int))) A2 d2 _ HC2.out (Nat.le_trans (left_len n a p us) (by decide)) (smallL_mem HSM.out) t2 t3).mono ?_
   rintro e w' ⟨he,rfl⟩
   rw[show firstFrom ((requestsN n a p).filter (keepU us)) (ri n.turns (5*a+(p:Int)))=k from HK.out] at he
   subst he
   by_cases hk0:0≤k
   ·have HS:=Lib.hid (gst_yes HE.out hk0)
    have j0:0≤k / 2:=by omega
    have j1:k / 2<5:=by omega
    have c9:=HU2H.out.cell hk0 k1
    have f9:=HU2H.out.2.frozen (k / 2).toNat
    have HRS:=Lib.hid (Kd.R_set HO2H.out HU2H.out.2 (by decide) (k / 2).toNat (.bool true))
    have HUS:Hid (UB 213 (w2.setCell ⟨w.heap.size+1,(k / 2).toNat,none⟩ (.bool true)) (w.heap.size+1) (us.set (k / 2).toNat true)):=Lib.hid ⟨by rw[List.length_set];exact HUSL.out,by have h:=HU2H.out.2.set (k / 2).toNat (.bool true);rwa [uCells_set] at h⟩
    have HBS:Below w.heap.size w (w2.setCell ⟨w.heap.size+1,(k / 2).toNat,none⟩ (.bool true)):=bw_set _ HB2 (by omega)
    go_wp2_with (at_builtin;refine app_G (W0:=w) rfl (.tmp 39) (.tmp 44) rfl _ (gst n a p).2 ⟨a,p,k⟩ rfl (by first|rfl|exact congrArg (fun z=>Value.slice (some ⟨z,0,none⟩) 1 1) (by simp only[szs])) HRS.out HBS (by omega) ?_;intro v3 w3 HO3 HB3 hg3)
    go_roundw
    case rel=>exact⟨p+1,by go_num,by omega,by rw[HS.out];exact HO3,by rw[HS.out,EUS.out];exact HUS.out.grown hg3 (Kd.R_ne HRS.out HUS.out.2 (by decide)),HB3⟩
    case measure=>simp[intOf];omega
   ·have HS:=Lib.hid (gst_no HE.out (by omega))
    go_wp2
    go_roundw
    case rel=>exact⟨p+1,by go_num,by omega,by rw[HS.out];exact HO2H.out,by rw[HS.out,EUS.out];exact HU2H.out,HB2⟩
    case measure=>simp[intOf];omega
  ·have p0:¬ (p:Int)≤4:=by omega
   obtain rfl:p=5:=by omega
   go_wp2
   go_ret
   exact⟨⟨_,rfl,HO⟩,HB⟩
set_option maxHeartbeats 4000000 in
theorem impl_allGrants (n:Net) (q:NA) (bx:Nat) (w:World) (hr:NetR 153 w n q) (hx:Box w bx (netCells n q)) (ok:netOk n=true) :
    Calls Tryz.prog 125 #[.pointer (some ⟨bx,0,none⟩)] w fun e w'=>GotG w w' (allGrants n) e∧Below w.heap.size w w':=by
  have R:=Lib.hid hr
  have X:=Lib.hid hx
  have OK:=Lib.hid ok
  obtain⟨s16,sn⟩:=srcs_len ok
  have HN:Hid (allGrants n=allTo n n.srcs.length):=Lib.hid (by rw[allGrants,←sn];rfl)
  have HND:Hid (∀ k:Nat,k<n.srcs.length→isNode n.mesh.g k=true):=Lib.hid (fun k hk=>(src_buf OK.out k hk).1)
  clear ok sn
  obtain⟨a1,a2,a3,a4,a5,a6,a7,a8,c1,c2,c3,c4,c5,c6,c7,c8⟩:=q;obtain⟨Rbr,Rpa,Rpb,Rbu,Row,Rtu,Rso,Rar,L1,L2,L3,L4,L5,L6,L7,L8,L9,L10,L11⟩:=hr;have M9:=Lib.hid L9;have M10:=Lib.hid L10;have M11:=Lib.hid L11;clear L9 L10 L11;dsimp only [netCells] at *
  have xl:=hx.lt;have x0:w.cell? ⟨bx,0,none⟩=some (.int .i64 n.mesh.g.w):=hx.get 0;have x1:w.cell? ⟨bx,1,none⟩=some (.int .i64 n.mesh.g.h):=hx.get 1;have x2:w.cell? ⟨bx,2,none⟩=some (.slice a1 n.mesh.br.length c1):=hx.get 2;have x3:w.cell? ⟨bx,3,none⟩=some (.slice a2 n.pa.length c2):=hx.get 3;have x4:w.cell? ⟨bx,4,none⟩=some (.slice a3 n.pb.length c3):=hx.get 4;have x5:w.cell? ⟨bx,5,none⟩=some (.slice a4 n.bufs.length c4):=hx.get 5;have x6:w.cell? ⟨bx,6,none⟩=some (.slice a5 n.owners.length c5):=hx.get 6;have x7:w.cell? ⟨bx,7,none⟩=some (.slice a6 n.turns.length c6):=hx.get 7;have x8:w.cell? ⟨bx,8,none⟩=some (.slice a7 n.srcs.length c7):=hx.get 8;have x9:w.cell? ⟨bx,9,none⟩=some (.slice a8 n.arrs.length c8):=hx.get 9;have x10:w.cell? ⟨bx,10,none⟩=some (.int .i64 n.time):=hx.get 10;clear hx
  go_enter Tryz.func125,Tryz.ntmps125
  go_wp2
  go_loopw [3,11] (fun v i wr=>∃ k:Nat,i=.int .i64 k∧k≤n.srcs.length∧kG.R 161 wr w.heap.size (fun _=>True) v (allTo n k)∧Below w.heap.size w wr) (fun _ i _=>n.srcs.length - (intOf i).toNat)
  case atStart=>exact⟨0,rfl,Nat.zero_le _,R_empty (W0:=w) _ _ (bw_size bel),bel⟩
  case round=>
    obtain⟨k,rfl,hk,HO,HB⟩:=hrel
    obtain⟨Ao,co,rfl⟩:=Kd.R_slice HO
    have hlen:=allTo_len n k
    obtain⟨hcr,hfr,hzr⟩:=bcell HB
    by_cases hlt:k<n.srcs.length
    · have i0:(k:Int)<(n.srcs.length:Int):=by omega
      have HS:=Lib.hid (allTo_succ n k)
      have gl:=gst_len n k 5
      go_wp2_with (first|(go_at_call 180;refine(impl_grants n _ bx k _ (R.out.below bel) (X.out.below bel) OK.out (HND.out k hlt)).mono ?_;rintro e w1 ⟨hg1,Ba⟩;obtain⟨A1,d1,rfl,hk1,hC1⟩:=hg1.read;obtain⟨Ca,Fa,Za⟩:=bcell Ba;(try simp only[szs] at Za);have Bb:=far2;obtain⟨Cb,Fb,Zb⟩:=bcell Bb;(try simp only[szs] at Zb);try (first|obtain⟨Ya,Yb,Yc,Yd⟩:=lts4 Zb|obtain⟨Ya,Yb,Yc⟩:=lts3 Zb|obtain⟨Ya,Yb⟩:=lts2 Zb|have Ya:=lts1 Zb);have hb9:=Ba)|(at_builtin;refine apps_G (W0:=w) rfl (.tmp 14) (.tmp 17) rfl _ (allTo n k) (grantsN n k) A1 d1 rfl rfl (by exact Kd.R_below HO bel) hC1 bel (by unfold grantsN;omega) ?_;intro v2 w2 HO2 HB2))
      go_roundw
      case rel=>exact⟨k+1,by go_num,by omega,by rw[HS.out];exact HO2,HB2⟩
      case measure=>simp[intOf];omega
    · have i0:¬ (k:Int)<(n.srcs.length:Int):=by omega
      obtain rfl:k=n.srcs.length:=by omega
      go_wp2
      go_ret
      exact⟨by rw[HN.out];exact⟨_,rfl,HO⟩,HB⟩
end Go.Proofs.YtodbglncccgdbaaGreat
