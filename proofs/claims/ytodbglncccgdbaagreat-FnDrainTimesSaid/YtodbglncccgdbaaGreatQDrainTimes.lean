/- The law FnExactDrainTimes answers true for all arguments, and leaves each as it was. No conditions. -/
import Derived.Test.YtodbglncccgdbaaGreatQ7
import Derived.Test.YtodbglncccgdbaaGreatQ21
import Derived.Test.YtodbglncccgdbaaGreatQ22
import Derived.Test.YtodbglncccgdbaaGreatRows
import Derived.WalkKit
import Derived.ProofKit
import Derived.OpenShut
import Derived.ShutString
import Derived.ChangeOld
import Derived.Below
import Derived.SizedLaws
set_option linter.unusedVariables false
set_option linter.unusedSimpArgs false
namespace Go.Proofs.YtodbglncccgdbaaGreat
open Go.RowKit Go.Proofs.YtodbglncccgdbaaGreatW.PrintWords
open NoC
set_option maxRecDepth 100000 in
set_option maxHeartbeats 16000000 in
theorem law_DrainTimes (A:Option Addr) (N c:Nat) (w:World) (HXB:Byt w A N):Calls Tryz.prog 3 #[.slice A N c] w fun e w'=>e=.returned (.bool true)∧Below w.heap.size w w':=by
 go_enter Tryz.func3,Tryz.ntmps3
 by_cases hbig:(1048576:Int)<(N:Int)
 ·go_wp2_with (go_at_call 7;refine(laws_big _ _ _ _).mono ?_;rintro e w' ⟨rfl,rfl⟩)
  go_ret
  exact⟨rfl,bel⟩
 go_wp2_with (go_at_call 7;refine(laws_big _ _ _ _).mono ?_;rintro e w' ⟨rfl,rfl⟩)
 refine(spec_DrawSafeTraffic A N c _ HXB).mono ?_
 rintro e w1 ⟨⟨g,r,s,l,A2,A3,D,c2,c3,d,rfl,hg,hrs,hd,hC2,hC3,hCD⟩,Ba⟩
 have HXB1:=Lib.hid (HXB.below Ba)
 clear HXB
 have HS:Hid (St0 g r s l):=Lib.hid ⟨hg,⟨hrs.1,by have:=hrs.2.1;omega,hrs.2.2.1,by have:=hrs.2.2.2;omega⟩,hd⟩
 have HRS:=Lib.hid hrs
 have hpl:=makeT_256 (g:=g) (r:=r)
 have hql:=makeT_256 (g:=g) (r:=s)
 have hl6:=hd.1
 have HDR:=Lib.hid hd
 have HGG:=Lib.hid hg
 obtain⟨pa,hpa⟩:∃ z,makeT g r=z:=⟨_,rfl⟩
 obtain⟨pb,hpb⟩:∃ z,makeT g s=z:=⟨_,rfl⟩
 have HPA:=Lib.hid hpa
 have HPB:=Lib.hid hpb
 rw[hpa] at hpl hC2 ⊢
 rw[hpb] at hql hC3 ⊢
 clear hpa hpb hrs hd hg
 have HCB:Hid (Kd.C (Kd.int .i64) w1 none (⟨g,[]⟩:Mesh).br.length (⟨g,[]⟩:Mesh).br):=Lib.hid (Kd.R_rowX (Kd.R_nil (Kd.int .i64) 3 w1 0 (fun _=>True))).2.2
 have HC2:=Lib.hid hC2;have HC3:=Lib.hid hC3;have HCD:=Lib.hid hCD
 have HWW:=Lib.hid Ba
 clear hC2 hC3 hCD Ba
 obtain⟨w2,e2⟩:∃ z,z=(w1.alloc (.cells #[.int .i64 g.w,.int .i64 g.h,.slice none 0 0] 28)).alloc (.cells #[.slice A2 pa.length c2,.slice A3 pb.length c3] 32):=⟨_,rfl⟩
 have Bb:Below w1.heap.size w1 w2:=by rw[e2];exact bw_alloc _ (bw_alloc _ (bw_refl w1))
 have HM:=Lib.hid (show Arr w2 w1.heap.size 28 #[.int .i64 g.w,.int .i64 g.h,.slice none 0 0] from by rw[e2];exact(Arr.new w1 _ _ _ rfl).below (bw_alloc _ (bw_refl _)))
 have HK:=Lib.hid (show Arr w2 (w1.heap.size+1) 32 #[.slice A2 pa.length c2,.slice A3 pb.length c3] from by rw[e2];exact Arr.new _ _ _ _ (by simp only[szs]))
 have z2:w1.heap.size+2≤w2.heap.size:=by rw[e2];simp only[szs];omega
 go_wp2_with fail
 rw[←e2]
 clear e2
 replace HCB:=Lib.hid (Kd.C_below HCB.out Bb)
 replace HC2:=Lib.hid (Kd.C_below HC2.out Bb)
 replace HC3:=Lib.hid (Kd.C_below HC3.out Bb)
 replace HCD:=Lib.hid (Kd.C_below HCD.out Bb)
 replace HXB1:=Lib.hid (HXB1.out.below Bb)
 replace HWW:=Lib.hid (bw_then HWW.out Bb)
 clear Bb
 have F:=HS.out.drainfacts HRS.out.2.1 HRS.out.2.2.2
 rw[HPA.out,HPB.out] at F
 obtain⟨K,hK,hK4,hz,hto,hsl,hlr,hhr⟩:=F
 have HDV:=Lib.hid hK
 have HZ:=Lib.hid hz
 have HTO:=Lib.hid hto
 have HSL:=Lib.hid hsl
 have HLR:=Lib.hid hlr
 have HPL:Hid (∀ j:Nat,j<l.length→1≤(rp l (j:Int)).len∧(rp l (j:Int)).len≤5):=Lib.hid (fun j hj=>(packet_parts (HS.out.pk j hj)).2.2.2.2)
 have K0:(0:Int)≤(K:Int):=by omega
 clear hK hz hto hsl hlr
 refine(impl_DrainTime ⟨g,[]⟩ pa pb l none A2 A3 D 0 c2 c3 d _ HCB.out (by simp) HC2.out (by omega) HC3.out (by omega) HCD.out (by omega)).mono ?_
 rintro e w3 ⟨rfl,hbc⟩
 rw[HDV.out]
 have zzw3:=bw_size hbc
 replace HCB:=Lib.hid (Kd.C_below HCB.out hbc)
 replace HC2:=Lib.hid (Kd.C_below HC2.out hbc)
 replace HC3:=Lib.hid (Kd.C_below HC3.out hbc)
 replace HCD:=Lib.hid (Kd.C_below HCD.out hbc)
 replace HM:=Lib.hid (HM.out.below hbc)
 replace HK:=Lib.hid (HK.out.below hbc)
 replace HXB1:=Lib.hid (HXB1.out.below hbc)
 replace HWW:=Lib.hid (bw_then HWW.out hbc)
 clear hbc
 go_wp2_with fail
 go_loopw [7,8] (fun sv i wr=>∃ k:Nat,i=.int .i64 k∧sv=.int .i64 (lenTo l k)∧k≤l.length∧Hid (Below w3.heap.size w3 wr)) (fun _ i _=>l.length - (intOf i).toNat)
 case atStart=>exact⟨0,rfl,rfl,Nat.zero_le _,Lib.hid (bw_refl _)⟩
 case round=>
  obtain⟨k,rfl,rfl,hk,HBr⟩:=hrel
  have HCBr:=Lib.hid (Kd.C_below HCB.out HBr.out)
  have HC2r:=Lib.hid (Kd.C_below HC2.out HBr.out)
  have HC3r:=Lib.hid (Kd.C_below HC3.out HBr.out)
  have HCDr:=Lib.hid (Kd.C_below HCD.out HBr.out)
  have m0:wr.cell? ⟨w1.heap.size,0,none⟩=some (.int .i64 g.w):=(HM.out.below HBr.out).cell 0
  have m1:wr.cell? ⟨w1.heap.size,1,none⟩=some (.int .i64 g.h):=(HM.out.below HBr.out).cell 1
  have m2:wr.cell? ⟨w1.heap.size,2,none⟩=some (.slice none 0 0):=(HM.out.below HBr.out).cell 2
  have m3:wr.cell? ⟨w1.heap.size+1,0,none⟩=some (.slice A2 pa.length c2):=(HK.out.below HBr.out).cell 0
  have m4:wr.cell? ⟨w1.heap.size+1,1,none⟩=some (.slice A3 pb.length c3):=(HK.out.below HBr.out).cell 1
  have ml:=(HM.out.below HBr.out).lt
  have mk:=(HK.out.below HBr.out).lt
  by_cases hlt:k<l.length
  ·obtain⟨qb,qo,rfl,hqb,pk0,pk1,pk2,pk3,pk4⟩:=rdP_at HCDr.out k hlt
   have i0:(k:Int)<(l.length:Int):=by omega
   have i9:(0:Int)≤(k:Int):=by omega
   have hz:=HZ.out k hlt
   have hp:=HPL.out k hlt
   have hl:=HLR.out k hk
   have hls:lenTo l (k+1)=lenTo l k+(rp l (k:Int)).len:=rfl
   obtain⟨P,hP⟩:∃ z,rp l (k:Int)=z:=⟨_,rfl⟩
   rw[hP] at pk0 pk1 pk2 pk3 pk4 hz hp hls
   clear hP
   have wr5:IntKind.i64.wrap (lenTo l k+P.len)=lenTo l k+P.len:=IntWalk.i64_in _ (by omega)
   obtain⟨zl,hzl⟩:∃ z,zeroLoad ⟨g,[]⟩ pa pb P=z:=⟨_,rfl⟩
   have HZL:=Lib.hid hzl
   rw[hzl] at hz
   have hnz:¬ (K:Int)<zl:=by omega
   clear hzl hp
   have HLS:=Lib.hid hls
   clear hls
   go_wp2
   go_region_held3 (fun w'=>Below (wr).heap.size (wr) w'∧∀ bq oq,bq<(wr).heap.size→w'.cell? ⟨bq,oq,none⟩=(wr).cell? ⟨bq,oq,none⟩) (first|exact far_of bel) ( (go_at_call 10;refine(impl_ZeroLoad ⟨g,[]⟩ pa pb P none A2 A3 0 c2 c3 _ (by exact Kd.C_below HCBr.out bel) (by simp) (by exact Kd.C_below HC2r.out bel) (by omega) (by exact Kd.C_below HC3r.out bel) (by omega)).mono ?_;rintro e wv ⟨he,Ba⟩;rw[HZL.out] at he;subst he;obtain⟨Ca,Fa,Za⟩:=bcell Ba;(try simp only[szs] at Za);have Bb:=far2;obtain⟨Cb,Fb,Zb⟩:=bcell Bb;(try simp only[szs] at Zb);try (first|obtain⟨Ya,Yb,Yc,Yd⟩:=lts4 Zb|obtain⟨Ya,Yb,Yc⟩:=lts3 Zb|obtain⟨Ya,Yb⟩:=lts2 Zb|have Ya:=lts1 Zb);have hb9:=Ba))
   have hbc:Below wr.heap.size wr wv:=bw_then (bw_drew (bw_refl _)) Bb
   repeat (first|clear Ca|clear Fa|clear Za|clear Ba|clear hb9|clear Cb|clear Fb|clear Zb|clear Bb)
   clear m0 m1 m2 m3 m4 ml mk
   go_wp2
   go_roundw
   case rel=>exact⟨k+1,by go_num,by rw[HLS.out],by omega,Lib.hid (bw_then HBr.out hbc)⟩
   case measure=>simp[intOf];omega
  ·obtain rfl:k=l.length:=by omega
   have i0:¬ (l.length:Int)<(l.length:Int):=by omega
   have hl:=HLR.out l.length (Nat.le_refl _)
   have hhr2:=hhr
   have hto:=HTO.out
   obtain⟨LN,hLN⟩:∃ z,lenTo l l.length=z:=⟨_,rfl⟩
   rw[hLN] at hl hto
   have HTO2:=Lib.hid hto
   clear hto
   rw[hLN]
   clear hLN
   have wr5:IntKind.i64.wrap (2*LN)=2*LN:=IntWalk.i64_in _ (by omega)
   go_wp2_with fail
   refine(spec_DrainTime ⟨g,[]⟩ pa pb l none A2 A3 D 0 c2 c3 d _ HCBr.out (by simp) HC2r.out (by omega) HC3r.out (by omega) HCDr.out (by omega)).mono ?_
   rintro e wa ⟨rfl,hbc⟩
   rw[HDV.out]
   clear m0 m1 m2 m3 m4 ml mk
   replace HBr:=Lib.hid (bw_then HBr.out hbc)
   replace HCBr:=Lib.hid (Kd.C_below HCBr.out hbc)
   replace HC2r:=Lib.hid (Kd.C_below HC2r.out hbc)
   replace HC3r:=Lib.hid (Kd.C_below HC3r.out hbc)
   replace HCDr:=Lib.hid (Kd.C_below HCDr.out hbc)
   clear hbc
   have m0:wa.cell? ⟨w1.heap.size,0,none⟩=some (.int .i64 g.w):=(HM.out.below HBr.out).cell 0
   have m1:wa.cell? ⟨w1.heap.size,1,none⟩=some (.int .i64 g.h):=(HM.out.below HBr.out).cell 1
   have m2:wa.cell? ⟨w1.heap.size,2,none⟩=some (.slice none 0 0):=(HM.out.below HBr.out).cell 2
   have m3:wa.cell? ⟨w1.heap.size+1,0,none⟩=some (.slice A2 pa.length c2):=(HK.out.below HBr.out).cell 0
   have m4:wa.cell? ⟨w1.heap.size+1,1,none⟩=some (.slice A3 pb.length c3):=(HK.out.below HBr.out).cell 1
   have ml:=(HM.out.below HBr.out).lt
   have mk:=(HK.out.below HBr.out).lt
   go_wp2_with fail
   refine(impl_TotalHops ⟨g,[]⟩ pa pb l none A2 A3 D 0 c2 c3 d _ HCBr.out (by simp) HC2r.out (by omega) HC3r.out (by omega) HCDr.out (by omega)).mono ?_
   rintro e wb ⟨rfl,hbc⟩
   have hto:=HTO2.out
   obtain⟨TH,hTH⟩:∃ z,totalHops ⟨g,[]⟩ pa pb l=z:=⟨_,rfl⟩
   rw[hTH] at hto hhr2 hhr
   rw[hTH]
   clear hTH HTO HTO2
   have wr6:IntKind.i64.wrap (TH+2*LN)=TH+2*LN:=IntWalk.i64_in _ (by omega)
   have e1:(K:Int)≤TH+2*LN:=by omega
   clear m0 m1 m2 m3 m4 ml mk
   replace HBr:=Lib.hid (bw_then HBr.out hbc)
   replace HCBr:=Lib.hid (Kd.C_below HCBr.out hbc)
   replace HC2r:=Lib.hid (Kd.C_below HC2r.out hbc)
   replace HC3r:=Lib.hid (Kd.C_below HC3r.out hbc)
   replace HCDr:=Lib.hid (Kd.C_below HCDr.out hbc)
   clear hbc
   have m0:wb.cell? ⟨w1.heap.size,0,none⟩=some (.int .i64 g.w):=(HM.out.below HBr.out).cell 0
   have m1:wb.cell? ⟨w1.heap.size,1,none⟩=some (.int .i64 g.h):=(HM.out.below HBr.out).cell 1
   have m2:wb.cell? ⟨w1.heap.size,2,none⟩=some (.slice none 0 0):=(HM.out.below HBr.out).cell 2
   have m3:wb.cell? ⟨w1.heap.size+1,0,none⟩=some (.slice A2 pa.length c2):=(HK.out.below HBr.out).cell 0
   have m4:wb.cell? ⟨w1.heap.size+1,1,none⟩=some (.slice A3 pb.length c3):=(HK.out.below HBr.out).cell 1
   have ml:=(HM.out.below HBr.out).lt
   have mk:=(HK.out.below HBr.out).lt
   by_cases hl0:l.length=0
   ·have e2:(l.length:Int)=0:=by omega
    go_wp2
    go_ret
    exact⟨by first|rfl|simp,bw_then HWW.out HBr.out⟩
   ·have e2:¬ (l.length:Int)=0:=by omega
    have e3:((l.length:Int) == 0)=false:=beq_eq_false_iff_ne.2 e2
    go_wp2_with fail
    refine(impl_Slowdown ⟨g,[]⟩ pa pb l none A2 A3 D 0 c2 c3 d _ HCBr.out (by simp) HC2r.out (by omega) HC3r.out (by omega) HCDr.out (by omega)).mono ?_
    rintro e wc ⟨rfl,hbc⟩
    have hs:=HSL.out hl0
    obtain⟨SL,hSL⟩:∃ z,slowN ⟨g,[]⟩ pa pb l=z:=⟨_,rfl⟩
    rw[hSL] at hs
    rw[hSL]
    clear hSL
    have e4:decide (0≤SL)=true:=decide_eq_true hs
    go_wp2
    go_ret
    exact⟨by first|rfl|simp[hs],bw_then (bw_then HWW.out HBr.out) hbc⟩
end Go.Proofs.YtodbglncccgdbaaGreat
namespace Go.Proofs.YtodbglncccgdbaaGreat
open Go.ChangeShapes Go.WideShapes Go.ChangeAt Go.RowKit Go.Proofs.YtodbglncccgdbaaGreatW.PrintWords
open NoC
set_option linter.unusedVariables false
theorem own:ownKnob Tryz.prog.godebug=none:=by kernel_rfl
theorem laidOut:laidOutB Tryz.prog=true:=by kernel_rfl
theorem arr_of {cs:Array Value} {l:List Value} (h:cs.toList=l):cs=l.toArray:=by rw[←h]
set_option maxHeartbeats 1000000 in
set_option maxRecDepth 100000 in
theorem lifted_DrainTimes (os:Os) (started:os.Started) (H:Type) (enc:TypeId × Value→H) :
    ReturnsInHanded {} Tryz.checked os 3 .any (Rows.fnDrainTimesSpec.pre6 enc Tryz.prog Tryz.f3 Rows.fnDrainTimesRow.domain false) (Rows.fnDrainTimesSpec.post enc Tryz.prog Tryz.f3 false true false false):=by
  refine returnsInHanded_of_change_sized (C:=Tryz.checked) own started (by kernel_rfl) Tryz.func3
    (ChangeSpec.witness6 (enc:=enc) (C:=Tryz.checked) false ⟨#[],#[.slice none 0 0],[]⟩ 8 (by kernel_rfl) (by kernel_rfl) (by kernel_rfl) (by kernel_rfl)) ?_
  intro W base args ds gs before hval0 hW hcnd hsz0 _
  have hsz:(DataW.weightsEach Tryz.prog (Tryz.f3.params.toList++Rows.fnDrainTimesSpec.plain.varTypes Tryz.prog) (ds++gs)).all (·≤reachBytes)=true:=hsz0
  have hval:∀ (j:Nat) t v,Tryz.f3.params[j]?=some t→args[j]?=some v→Value.okWide Tryz.prog W .any base t v:=hval0
  have hW':=hW
  obtain⟨p,q,hA0,hV,rfl,hfz,hnd⟩:=hW
  have hA:DataW.TrodAll enc Tryz.prog W 0 (fun _=>true) true Tryz.f3.params.toList args.toList ds p:=hA0
  rw[Tryz.params3] at hA hval hsz
  obtain⟨v0,vs0,d0,ds0,p0,q0,hargs,rfl,rfl,h0,r0⟩:=trodAll_cons hA
  obtain⟨rfl,rfl,rfl⟩:=trodAll_nil r0
  obtain rfl:args=#[v0]:=by cases args;simp_all
  obtain⟨rfl,rfl⟩:=trodVars_none hV
  obtain⟨c0,n0,o0,rfl⟩:=okWide_slice Tryz.underlying22 (hval 0 _ v0 rfl rfl)
  have k0:=h0
  have lt0:∀ x∈p0,x.block<W.heap.size:=by obtain⟨m,hm⟩:=k0;exact DataW.trod_lt m _ _ _ hm
  obtain⟨f0,g0⟩:=h0
  obtain⟨A0,a0,N0,e0,hl0⟩:=op_bytes g0 (light_arg hsz (j:=0) rfl rfl)
  simp[Value.cells] at e0
  obtain⟨rfl,rfl,rfl⟩:=e0
  clear hA0 hval0 hsz0 hsz
  refine(law_DrainTimes c0 n0 o0 W hl0).mono fun e W' ⟨he,bel⟩=>?_
  subst he
  exact⟨_,rfl,_,_,_,[],_,[],hW',trodAll_mk1 (shut_bool Tryz.underlying4 _),(trodAll_cons_mk (Below.trod laidOut (by kernel_rfl) (of_decide_eq_true (by kernel_rfl)) k0 bel lt0) trodAll_mk0),rfl,bel.frame _,fun h=>by cases h⟩
theorem over_DrainTimes:Rows.fnDrainTimesRow.holds Tryz.pinned (OpenSpec.ofChange Rows.fnDrainTimesSpec):=
  OpenClaim.holds_of_wide 3 Tryz.f3 rfl rfl rfl rfl rfl rfl rfl ⟨rfl,rfl,rfl,rfl,rfl⟩ rfl rfl rfl rfl rfl (by kernel_rfl) Tryz.func3 (by kernel_rfl)
    (of_decide_eq_true (by kernel_rfl)) (by unfold Func.isWrapper;first|(rw[if_pos (by decide +kernel)];kernel_rfl)|(rw[if_neg (by decide +kernel)];exact⟨rfl,rfl⟩))
    (fun os started H enc _=>lifted_DrainTimes os started H enc)
theorem fnDrainTimes_holds:Rows.FnDrainTimesSaid:=over_DrainTimes
#print axioms fnDrainTimes_holds
end Go.Proofs.YtodbglncccgdbaaGreat
