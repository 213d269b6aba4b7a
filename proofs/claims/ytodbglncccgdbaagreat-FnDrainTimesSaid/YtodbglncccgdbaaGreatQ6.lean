/- Lemmas for laws of this seat, for all inputs: WalkT TabOk Src M5 Draw Draw2. -/
import Derived.Test.YtodbglncccgdbaaGreatQ5
import Derived.Test.YtodbglncccgdbaaGreatQ3
import Derived.Test.YtodbglncccgdbaaGreatQ1
import Derived.Laws.Closers25b
import Derived.RangeFuncBox
import Derived.IntWalk
import Derived.RegionTactic
import Derived.BigRegion
import Derived.Laws.BitsAllLaws
set_option linter.unusedVariables false
set_option linter.unusedSimpArgs false
namespace Go.Proofs.YtodbglncccgdbaaGreat
open Go.RowKit Go.Proofs.YtodbglncccgdbaaGreatW.PrintWords
open NoC
set_option maxHeartbeats 1000000 in
theorem impl_WalkTable (m:Mesh) (t:List Int) (a b:Int) (A B:Option Addr) (c d:Nat) (w:World) (hr:Kd.C (Kd.int .i64) w A m.br.length m.br) (hn:m.br.length≤2097152) (ht:Kd.C (Kd.int .i64) w B t.length t) (hk:t.length≤2097152) :
  Calls Tryz.prog 44 #[.agg #[.int .i64 m.g.w,.int .i64 m.g.h,.slice A m.br.length c],.agg #[.slice B t.length d],.int .i64 a,.int .i64 b] w fun e w'=>GotI w w' (wt m t a b) e∧Below w.heap.size w w':=by
 obtain⟨n0,n1⟩:=count_le m.g
 go_enter Tryz.func44,Tryz.ntmps44
 by_cases hab:a=b
 ·have e1:(a == b)=true:=beq_iff_eq.2 hab
  have HAB:=Lib.hid hab
  clear hab
  go_wp2
  go_ret
  exact⟨by rw[show wt m t a b=[] by simp[wt,HAB.out]];exact GotI.nil _ _,bel⟩
 have e1:(a == b)=false:=beq_eq_false_iff_ne.2 hab
 have HAB:=Lib.hid hab
 clear hab
 cases hm:meshOk m
 ·go_wp2_with (go_at_call 99;refine(impl_MeshOk m _ _ _ (by exact Kd.C_below hr bel) hn).mono ?_;rintro e w1 ⟨rfl,Ba⟩;obtain⟨Ca,Fa,Za⟩:=bcell Ba;(try simp only[szs] at Za);have Bb:=far2;obtain⟨Cb,Fb,Zb⟩:=bcell Bb;(try simp only[szs] at Zb);try (first|obtain⟨Ya,Yb,Yc,Yd⟩:=lts4 Zb|obtain⟨Ya,Yb,Yc⟩:=lts3 Zb|obtain⟨Ya,Yb⟩:=lts2 Zb|have Ya:=lts1 Zb);have hb9:=Ba)
  go_ret
  exact⟨by rw[show wt m t a b=[] by simp[wt,sized,hm]];exact GotI.nil _ _,bel⟩
 cases ha:isNode m.g a
 ·go_wp2_with (first|(go_at_call 99;refine(impl_MeshOk m _ _ _ (by exact Kd.C_below hr bel) hn).mono ?_;rintro e w1 ⟨rfl,Ba⟩;obtain⟨Ca,Fa,Za⟩:=bcell Ba;(try simp only[szs] at Za);have Bb:=far2;obtain⟨Cb,Fb,Zb⟩:=bcell Bb;(try simp only[szs] at Zb);try (first|obtain⟨Ya,Yb,Yc,Yd⟩:=lts4 Zb|obtain⟨Ya,Yb,Yc⟩:=lts3 Zb|obtain⟨Ya,Yb⟩:=lts2 Zb|have Ya:=lts1 Zb);have hb9:=Ba)|(go_at_call 98;refine(impl_isNode m.g _ _).mono ?_;rintro e w1 ⟨rfl,Ba⟩;obtain⟨Ca,Fa,Za⟩:=bcell Ba;(try simp only[szs] at Za);have Bb:=far2;obtain⟨Cb,Fb,Zb⟩:=bcell Bb;(try simp only[szs] at Zb);try (first|obtain⟨Ya,Yb,Yc,Yd⟩:=lts4 Zb|obtain⟨Ya,Yb,Yc⟩:=lts3 Zb|obtain⟨Ya,Yb⟩:=lts2 Zb|have Ya:=lts1 Zb);have hb9:=Ba))
  go_ret
  exact⟨by rw[show wt m t a b=[] by simp[wt,ha]];exact GotI.nil _ _,bel⟩
 cases hb:isNode m.g b
 ·go_wp2_with (first|(go_at_call 99;refine(impl_MeshOk m _ _ _ (by exact Kd.C_below hr bel) hn).mono ?_;rintro e w1 ⟨rfl,Ba⟩;obtain⟨Ca,Fa,Za⟩:=bcell Ba;(try simp only[szs] at Za);have Bb:=far2;obtain⟨Cb,Fb,Zb⟩:=bcell Bb;(try simp only[szs] at Zb);try (first|obtain⟨Ya,Yb,Yc,Yd⟩:=lts4 Zb|obtain⟨Ya,Yb,Yc⟩:=lts3 Zb|obtain⟨Ya,Yb⟩:=lts2 Zb|have Ya:=lts1 Zb);have hb9:=Ba)|(go_at_call 98;refine(impl_isNode m.g _ _).mono ?_;rintro e w1 ⟨rfl,Ba⟩;obtain⟨Ca,Fa,Za⟩:=bcell Ba;(try simp only[szs] at Za);have Bb:=far2;obtain⟨Cb,Fb,Zb⟩:=bcell Bb;(try simp only[szs] at Zb);try (first|obtain⟨Ya,Yb,Yc,Yd⟩:=lts4 Zb|obtain⟨Ya,Yb,Yc⟩:=lts3 Zb|obtain⟨Ya,Yb⟩:=lts2 Zb|have Ya:=lts1 Zb);have hb9:=Ba))
  go_ret
  exact⟨by rw[show wt m t a b=[] by simp[wt,hb]];exact GotI.nil _ _,bel⟩
 go_wp2_with (first|(go_at_call 99;refine(impl_MeshOk m _ _ _ (by exact Kd.C_below hr bel) hn).mono ?_;rintro e w1 ⟨rfl,Ba⟩;obtain⟨Ca,Fa,Za⟩:=bcell Ba;(try simp only[szs] at Za);have Bb:=far2;obtain⟨Cb,Fb,Zb⟩:=bcell Bb;(try simp only[szs] at Zb);try (first|obtain⟨Ya,Yb,Yc,Yd⟩:=lts4 Zb|obtain⟨Ya,Yb,Yc⟩:=lts3 Zb|obtain⟨Ya,Yb⟩:=lts2 Zb|have Ya:=lts1 Zb);have hb9:=Ba)|(go_at_call 98;refine(impl_isNode m.g _ _).mono ?_;rintro e w1 ⟨rfl,Ba⟩;obtain⟨Ca,Fa,Za⟩:=bcell Ba;(try simp only[szs] at Za);have Bb:=far2;obtain⟨Cb,Fb,Zb⟩:=bcell Bb;(try simp only[szs] at Zb);try (first|obtain⟨Ya,Yb,Yc,Yd⟩:=lts4 Zb|obtain⟨Ya,Yb,Yc⟩:=lts3 Zb|obtain⟨Ya,Yb⟩:=lts2 Zb|have Ya:=lts1 Zb);have hb9:=Ba))
 go_loopg [9,10] ((nodeCount m.g).toNat+1) (fun k v x wr=>∃ (out:List Int) (n:Int),x=.int .i64 n∧Hid (isNode m.g n=true)∧(k+out.length=(nodeCount m.g).toNat+1∧out.length≤(nodeCount m.g).toNat)∧Hid (wt m t a b=walkFrom m t b n out)∧Kd.R (Kd.int .i64) 3 wr ((w.alloc (.cells #[.int .i64 m.g.w,.int .i64 m.g.h,.slice A m.br.length c] 28)).alloc (.cells #[.slice B t.length d] 30)).heap.size (fun _=>True) v out∧Below ((w.alloc (.cells #[.int .i64 m.g.w,.int .i64 m.g.h,.slice A m.br.length c] 28)).alloc (.cells #[.slice B t.length d] 30)).heap.size ((w.alloc (.cells #[.int .i64 m.g.w,.int .i64 m.g.h,.slice A m.br.length c] 28)).alloc (.cells #[.slice B t.length d] 30)) wr)
 case atStart=>exact⟨[],a,rfl,Lib.hid ha,by simp,Lib.hid (wt_start HAB.out ha hb),R_empty (W0:=(w.alloc (.cells #[.int .i64 m.g.w,.int .i64 m.g.h,.slice A m.br.length c] 28)).alloc (.cells #[.slice B t.length d] 30)) _ _ (bw_size bel),bel⟩
 case round=>
  obtain⟨out,n,rfl,HN,⟨hlen,hlo⟩,HW,HO,HB⟩:=hrel
  have hlen':=Lib.hid hlen
  clear hlen
  obtain⟨Ao,co,rfl⟩:=Kd.R_slice HO
  obtain⟨hc0,hf0,hz0⟩:=bcell HB
  simp only[szs] at hz0
  obtain⟨p,hp⟩:∃ p,portAt m t n b=p:=⟨_,rfl⟩
  have hpr:=portAt_range m t n b
  rw[hp] at hpr
  obtain⟨hp1,hp2⟩:=hpr
  have HP:=Lib.hid hp
  clear hp
  obtain⟨q1,q2,q3,q4⟩:=node_bounds HN.out
  clear q1 q3
  by_cases c1:p<0
  ·go_wp2_with (first|(go_at_call 100;refine(impl_PortAt m t n b A B c d _ (by exact Kd.C_below hr bel) hn (by exact Kd.C_below ht bel) hk).mono ?_;rintro e w1 ⟨he,Ba⟩;rw[HP.out] at he;subst he;obtain⟨Ca,Fa,Za⟩:=bcell Ba;(try simp only[szs] at Za);have Bb:=far2;obtain⟨Cb,Fb,Zb⟩:=bcell Bb;(try simp only[szs] at Zb);try (first|obtain⟨Ya,Yb,Yc,Yd⟩:=lts4 Zb|obtain⟨Ya,Yb,Yc⟩:=lts3 Zb|obtain⟨Ya,Yb⟩:=lts2 Zb|have Ya:=lts1 Zb);have hb9:=Ba))
   go_ret
   exact⟨by rw[HW.out,walk_bad HN.out hb hlo (by rw[HP.out];exact c1)];exact GotI.nil _ _,bel⟩
  by_cases c2:p=4
  ·subst c2
   by_cases c3:n=b
   ·have e3:(n != b)=false:=bne_eq_false_iff_eq.2 c3
    have C3:=Lib.hid c3
    clear c3
    go_wp2_with (first|(go_at_call 100;refine(impl_PortAt m t n b A B c d _ (by exact Kd.C_below hr bel) hn (by exact Kd.C_below ht bel) hk).mono ?_;rintro e w1 ⟨he,Ba⟩;rw[HP.out] at he;subst he;obtain⟨Ca,Fa,Za⟩:=bcell Ba;(try simp only[szs] at Za);have Bb:=far2;obtain⟨Cb,Fb,Zb⟩:=bcell Bb;(try simp only[szs] at Zb);try (first|obtain⟨Ya,Yb,Yc,Yd⟩:=lts4 Zb|obtain⟨Ya,Yb,Yc⟩:=lts3 Zb|obtain⟨Ya,Yb⟩:=lts2 Zb|have Ya:=lts1 Zb);have hb9:=Ba))
    go_ret
    exact⟨by rw[HW.out,walk_here HN.out hb hlo HP.out,if_pos C3.out];exact GotI.mk (W0:=(w.alloc (.cells #[.int .i64 m.g.w,.int .i64 m.g.h,.slice A m.br.length c] 28)).alloc (.cells #[.slice B t.length d] 30)) (by exact Kd.R_below HO bel) (by simp only[szs];omega),bel⟩
   ·have e3:(n != b)=true:=bne_iff_ne.2 c3
    have C3:=Lib.hid c3
    clear c3
    go_wp2_with (first|(go_at_call 100;refine(impl_PortAt m t n b A B c d _ (by exact Kd.C_below hr bel) hn (by exact Kd.C_below ht bel) hk).mono ?_;rintro e w1 ⟨he,Ba⟩;rw[HP.out] at he;subst he;obtain⟨Ca,Fa,Za⟩:=bcell Ba;(try simp only[szs] at Za);have Bb:=far2;obtain⟨Cb,Fb,Zb⟩:=bcell Bb;(try simp only[szs] at Zb);try (first|obtain⟨Ya,Yb,Yc,Yd⟩:=lts4 Zb|obtain⟨Ya,Yb,Yc⟩:=lts3 Zb|obtain⟨Ya,Yb⟩:=lts2 Zb|have Ya:=lts1 Zb);have hb9:=Ba))
    go_ret
    exact⟨by rw[HW.out,walk_here HN.out hb hlo HP.out,if_neg C3.out];exact GotI.nil _ _,bel⟩
  have e2:(p == 4)=false:=beq_eq_false_iff_ne.2 c2
  have C2:=Lib.hid c2
  clear c2
  have p0:0≤p:=by omega
  have p3:p≤3:=by have:=C2.out;omega
  have hch:hasChannel m (4*n+p)=hasChannel m (4*n+portAt m t n b):=by rw[HP.out]
  have HCH:=Lib.hid hch
  clear hch
  cases hc:hasChannel m (4*n+p)
  ·go_wp2_with (first|(go_at_call 100;refine(impl_PortAt m t n b A B c d _ (by exact Kd.C_below hr bel) hn (by exact Kd.C_below ht bel) hk).mono ?_;rintro e w1 ⟨he,Ba⟩;rw[HP.out] at he;subst he;obtain⟨Ca,Fa,Za⟩:=bcell Ba;(try simp only[szs] at Za);have Bb:=far2;obtain⟨Cb,Fb,Zb⟩:=bcell Bb;(try simp only[szs] at Zb);try (first|obtain⟨Ya,Yb,Yc,Yd⟩:=lts4 Zb|obtain⟨Ya,Yb,Yc⟩:=lts3 Zb|obtain⟨Ya,Yb⟩:=lts2 Zb|have Ya:=lts1 Zb);have hb9:=Ba)|(go_at_call 101;refine(impl_HasChannel m _ A c _ (by exact Kd.C_below hr bel) hn).mono ?_;rintro e w1 ⟨rfl,Ba⟩;obtain⟨Ca,Fa,Za⟩:=bcell Ba;(try simp only[szs] at Za);have Bb:=far2;obtain⟨Cb,Fb,Zb⟩:=bcell Bb;(try simp only[szs] at Zb);try (first|obtain⟨Ya,Yb,Yc,Yd⟩:=lts4 Zb|obtain⟨Ya,Yb,Yc⟩:=lts3 Zb|obtain⟨Ya,Yb⟩:=lts2 Zb|have Ya:=lts1 Zb);have hb9:=Ba))
   go_ret
   exact⟨by rw[HW.out,walk_stop HN.out hb hlo (by rw[HP.out];exact p0) (by rw[HP.out];exact C2.out) (by rw[←HCH.out];exact hc)];exact GotI.nil _ _,bel⟩
  by_cases c4:(out.length:Int)=nodeCount m.g
  ·have e4:((out.length:Int) == nodeCount m.g)=true:=beq_iff_eq.2 c4
   have C4:=Lib.hid c4
   clear c4
   go_wp2_with (first|(go_at_call 100;refine(impl_PortAt m t n b A B c d _ (by exact Kd.C_below hr bel) hn (by exact Kd.C_below ht bel) hk).mono ?_;rintro e w1 ⟨he,Ba⟩;rw[HP.out] at he;subst he;obtain⟨Ca,Fa,Za⟩:=bcell Ba;(try simp only[szs] at Za);have Bb:=far2;obtain⟨Cb,Fb,Zb⟩:=bcell Bb;(try simp only[szs] at Zb);try (first|obtain⟨Ya,Yb,Yc,Yd⟩:=lts4 Zb|obtain⟨Ya,Yb,Yc⟩:=lts3 Zb|obtain⟨Ya,Yb⟩:=lts2 Zb|have Ya:=lts1 Zb);have hb9:=Ba)|(go_at_call 101;refine(impl_HasChannel m _ A c _ (by exact Kd.C_below hr bel) hn).mono ?_;rintro e w1 ⟨rfl,Ba⟩;obtain⟨Ca,Fa,Za⟩:=bcell Ba;(try simp only[szs] at Za);have Bb:=far2;obtain⟨Cb,Fb,Zb⟩:=bcell Bb;(try simp only[szs] at Zb);try (first|obtain⟨Ya,Yb,Yc,Yd⟩:=lts4 Zb|obtain⟨Ya,Yb,Yc⟩:=lts3 Zb|obtain⟨Ya,Yb⟩:=lts2 Zb|have Ya:=lts1 Zb);have hb9:=Ba)|(go_at_call 51;refine(impl_NodeCount m.g _).mono ?_;rintro e w1 ⟨rfl,Ba⟩;obtain⟨Ca,Fa,Za⟩:=bcell Ba;(try simp only[szs] at Za);have Bb:=far2;obtain⟨Cb,Fb,Zb⟩:=bcell Bb;(try simp only[szs] at Zb);try (first|obtain⟨Ya,Yb,Yc,Yd⟩:=lts4 Zb|obtain⟨Ya,Yb,Yc⟩:=lts3 Zb|obtain⟨Ya,Yb⟩:=lts2 Zb|have Ya:=lts1 Zb);have hb9:=Ba))
   go_ret
   exact⟨by rw[HW.out,walk_full HN.out hb C4.out (by rw[HP.out];exact p0) (by rw[HP.out];exact C2.out)];exact GotI.nil _ _,bel⟩
  have e4:((out.length:Int) == nodeCount m.g)=false:=beq_eq_false_iff_ne.2 c4
  have hlt:out.length<(nodeCount m.g).toNat:=by omega
  clear c4
  have hnn:=next_node p0 p3 hc
  have HNN:=Lib.hid hnn
  clear hnn
  have HC:=Lib.hid hc
  go_wp2_with (first|(go_at_call 100;refine(impl_PortAt m t n b A B c d _ (by exact Kd.C_below hr bel) hn (by exact Kd.C_below ht bel) hk).mono ?_;rintro e w1 ⟨he,Ba⟩;rw[HP.out] at he;subst he;obtain⟨Ca,Fa,Za⟩:=bcell Ba;(try simp only[szs] at Za);have Bb:=far2;obtain⟨Cb,Fb,Zb⟩:=bcell Bb;(try simp only[szs] at Zb);try (first|obtain⟨Ya,Yb,Yc,Yd⟩:=lts4 Zb|obtain⟨Ya,Yb,Yc⟩:=lts3 Zb|obtain⟨Ya,Yb⟩:=lts2 Zb|have Ya:=lts1 Zb);have hb9:=Ba)|(go_at_call 101;refine(impl_HasChannel m _ A c _ (by exact Kd.C_below hr bel) hn).mono ?_;rintro e w1 ⟨rfl,Ba⟩;obtain⟨Ca,Fa,Za⟩:=bcell Ba;(try simp only[szs] at Za);have Bb:=far2;obtain⟨Cb,Fb,Zb⟩:=bcell Bb;(try simp only[szs] at Zb);try (first|obtain⟨Ya,Yb,Yc,Yd⟩:=lts4 Zb|obtain⟨Ya,Yb,Yc⟩:=lts3 Zb|obtain⟨Ya,Yb⟩:=lts2 Zb|have Ya:=lts1 Zb);have hb9:=Ba)|(go_at_call 51;refine(impl_NodeCount m.g _).mono ?_;rintro e w1 ⟨rfl,Ba⟩;obtain⟨Ca,Fa,Za⟩:=bcell Ba;(try simp only[szs] at Za);have Bb:=far2;obtain⟨Cb,Fb,Zb⟩:=bcell Bb;(try simp only[szs] at Zb);try (first|obtain⟨Ya,Yb,Yc,Yd⟩:=lts4 Zb|obtain⟨Ya,Yb,Yc⟩:=lts3 Zb|obtain⟨Ya,Yb⟩:=lts2 Zb|have Ya:=lts1 Zb);have hb9:=Ba)|(at_builtin;refine app_int (W0:=(w.alloc (.cells #[.int .i64 m.g.w,.int .i64 m.g.h,.slice A m.br.length c] 28)).alloc (.cells #[.slice B t.length d] 30)) rfl (.tmp 67) (.tmp 72) 26 3 rfl Tryz.underlying26 info_int _ out _ rfl rfl (by exact Kd.R_below HO bel) bel (by omega) ?_;intro v1 w1 HO1 HB1;obtain⟨Ca,Fa,Za⟩:=bcell HB1;(try simp only[szs] at Za);have Bb:=HB1;have hb9:=HB1)|(go_at_call 102;refine(impl_endOf m n p A c _ HN.out p0 p3).mono ?_;rintro e w1 ⟨rfl,Ba⟩;obtain⟨Ca,Fa,Za⟩:=bcell Ba;(try simp only[szs] at Za);have Bb:=far2;obtain⟨Cb,Fb,Zb⟩:=bcell Bb;(try simp only[szs] at Zb);try (first|obtain⟨Ya,Yb,Yc,Yd⟩:=lts4 Zb|obtain⟨Ya,Yb,Yc⟩:=lts3 Zb|obtain⟨Ya,Yb⟩:=lts2 Zb|have Ya:=lts1 Zb);have hb9:=Ba))
  have key:wt m t a b=walkFrom m t b (nextNode m.g n p) (out++[4*n+p]):=by
   rw[HW.out,walk_on HN.out hb (by omega) (by rw[HP.out];exact p0) (by rw[HP.out];exact C2.out) (by rw[HP.out];exact HC.out),HP.out]
  go_roundg ((nodeCount m.g).toNat - out.length)
  case measure=>have:=hlen'.out;omega
  case rel=>exact⟨out++[4*n+p],_,rfl,HNN,⟨by simp;omega,by simp;omega⟩,Lib.hid key,(by exact Kd.R_below HO1 bel),bel⟩

set_option maxHeartbeats 1000000 in
theorem spec_l04Walk (m:Mesh) (t:List Int) (a b:Int) (A B:Option Addr) (c d:Nat) (w:World) (hr:Kd.C (Kd.int .i64) w A m.br.length m.br) (hn:m.br.length≤2097152) (ht:Kd.C (Kd.int .i64) w B t.length t) (hs:sized m t=true) (ha:isNode m.g a=true) (hb:isNode m.g b=true) :
  Calls Tryz.prog 226 #[.agg #[.int .i64 m.g.w,.int .i64 m.g.h,.slice A m.br.length c],.agg #[.slice B t.length d],.int .i64 a,.int .i64 b] w fun e w'=>GotI w w' (walkFrom m t b a []) e∧Below w.heap.size w w':=by
 obtain⟨n0,n1⟩:=count_le m.g
 obtain⟨hm,hsz⟩:=sized_iff.1 hs
 have HSZ:=Lib.hid hsz
 clear hsz
 go_enter Tryz.func226,Tryz.ntmps226
 go_wp2_with (go_at_call 93;refine(spec_NodeCount m.g _).mono ?_;rintro e w1 ⟨rfl,Ba⟩;obtain⟨Ca,Fa,Za⟩:=bcell Ba;(try simp only[szs] at Za);have Bb:=far2;obtain⟨Cb,Fb,Zb⟩:=bcell Bb;(try simp only[szs] at Zb);try (first|obtain⟨Ya,Yb,Yc,Yd⟩:=lts4 Zb|obtain⟨Ya,Yb,Yc⟩:=lts3 Zb|obtain⟨Ya,Yb⟩:=lts2 Zb|have Ya:=lts1 Zb);have hb9:=Ba)
 go_loopg [9,11] ((nodeCount m.g).toNat+1) (fun k v x wr=>∃ (out:List Int) (n:Int),x=.int .i64 n∧Hid (isNode m.g n=true)∧Hid (k+out.length=(nodeCount m.g).toNat+1)∧Hid (walkFrom m t b a []=walkFrom m t b n out)∧Kd.R (Kd.int .i64) 3 wr ((w.alloc (.cells #[.int .i64 m.g.w,.int .i64 m.g.h,.slice A m.br.length c] 28)).alloc (.cells #[.slice B t.length d] 30)).heap.size (fun _=>True) v out∧Below ((w.alloc (.cells #[.int .i64 m.g.w,.int .i64 m.g.h,.slice A m.br.length c] 28)).alloc (.cells #[.slice B t.length d] 30)).heap.size ((w.alloc (.cells #[.int .i64 m.g.w,.int .i64 m.g.h,.slice A m.br.length c] 28)).alloc (.cells #[.slice B t.length d] 30)) wr)
 case atStart=>exact⟨[],a,rfl,Lib.hid ha,Lib.hid (by simp),Lib.hid rfl,(by exact Kd.R_below (R_empty' (W0:=(w.alloc (.cells #[.int .i64 m.g.w,.int .i64 m.g.h,.slice A m.br.length c] 28)).alloc (.cells #[.slice B t.length d] 30)) (W:=(w.alloc (.cells #[.int .i64 m.g.w,.int .i64 m.g.h,.slice A m.br.length c] 28)).alloc (.cells #[.slice B t.length d] 30)) _ _ (Nat.le_refl _) _ (by simp)) bel),bel⟩
 case round=>
  obtain⟨out,n,rfl,HN,hlen,HW,HO,HB⟩:=hrel
  obtain⟨Ao,co,rfl⟩:=Kd.R_slice HO
  obtain⟨hc0,hf0,hz0⟩:=bcell HB
  simp only[szs] at hz0
  by_cases hlo:out.length≤(nodeCount m.g).toNat
  ·obtain⟨q1,q2,q3,q4⟩:=node_bounds HN.out
   clear q1 q3
   obtain⟨p1,p2,p3,p4⟩:=entry_place (g:=m.g) (a:=n) (b:=b) HN.out hb
   have q5:n*nodeCount m.g+b<(t.length:Int):=by rw[HSZ.out];exact p4
   have hbb:=node_bounds hb
   have hb0:0≤b:=hbb.2.1
   have Ba:b≤15:=hbb.2.2.2
   clear hbb p4
   obtain⟨bb,off,rfl,hbl,hx⟩:=rdI_at ht (n*nodeCount m.g+b).toNat (by omega)
   have hxe:=hx (n*nodeCount m.g+b).toNat (by omega)
   rw[Int.toNat_of_nonneg p3] at hxe
   obtain⟨z1,z2,z3,z4,z5,z6⟩:=more hbl
   clear hx
   obtain⟨p,hp⟩:∃ p,ri t (n*nodeCount m.g+b)=p:=⟨_,rfl⟩
   rw[hp] at hxe
   have hpe:entry m t n b=p:=hp
   have HP:=Lib.hid hpe
   clear hp hpe
   have hw:=walkE (b:=b) (at_:=n) hs hlo
   rw[HP.out] at hw
   have HE:=Lib.hid hw
   clear hw
   by_cases c2:p=4
   ·subst c2
    by_cases c3:n=b
    ·have e3:(n != b)=false:=bne_eq_false_iff_eq.2 c3
     have C3:=Lib.hid c3
     clear c3
     go_wp2
     go_ret
     exact⟨by rw[HW.out,HE.out,if_pos trivial,if_pos C3.out];exact GotI.mk (W0:=(w.alloc (.cells #[.int .i64 m.g.w,.int .i64 m.g.h,.slice A m.br.length c] 28)).alloc (.cells #[.slice (some ⟨bb,off,none⟩) t.length d] 30)) (by exact Kd.R_below HO bel) (by simp only[szs];omega),bel⟩
    ·have e3:(n != b)=true:=bne_iff_ne.2 c3
     have C3:=Lib.hid c3
     clear c3
     go_wp2
     go_ret
     exact⟨by rw[HW.out,HE.out,if_pos trivial,if_neg C3.out];exact GotI.mk (W0:=(w.alloc (.cells #[.int .i64 m.g.w,.int .i64 m.g.h,.slice A m.br.length c] 28)).alloc (.cells #[.slice (some ⟨bb,off,none⟩) t.length d] 30)) (R_empty _ _ (bw_size bel)) (by simp only[szs];omega),bel⟩
   have e2:(p == 4)=false:=beq_eq_false_iff_ne.2 c2
   have C2:=Lib.hid c2
   clear c2
   cases hi:inside p 0 3
   ·go_wp2_with (go_at_call 148;refine(spec_l01In _ _ _ _).mono ?_;rintro e w' ⟨rfl,rfl⟩)
    go_ret
    exact⟨by rw[HW.out,HE.out,if_neg C2.out,hi];exact GotI.mk (W0:=(w.alloc (.cells #[.int .i64 m.g.w,.int .i64 m.g.h,.slice A m.br.length c] 28)).alloc (.cells #[.slice (some ⟨bb,off,none⟩) t.length d] 30)) (R_empty _ _ (bw_size bel)) (by simp only[szs];omega),bel⟩
   obtain⟨p0,p7⟩:=inside_iff.1 hi
   cases hc:live m (4*n+p)
   ·go_wp2_with (first|(go_at_call 148;refine(spec_l01In _ _ _ _).mono ?_;rintro e w' ⟨rfl,rfl⟩)|(go_at_call 237;refine(spec_l03Has m _ A c _ (by exact Kd.C_below hr bel) hn).mono ?_;rintro e w1 ⟨rfl,Ba⟩;obtain⟨Ca,Fa,Za⟩:=bcell Ba;(try simp only[szs] at Za);have Bb:=far2;obtain⟨Cb,Fb,Zb⟩:=bcell Bb;(try simp only[szs] at Zb);try (first|obtain⟨Ya,Yb,Yc,Yd⟩:=lts4 Zb|obtain⟨Ya,Yb,Yc⟩:=lts3 Zb|obtain⟨Ya,Yb⟩:=lts2 Zb|have Ya:=lts1 Zb);have hb9:=Ba))
    go_ret
    exact⟨by rw[HW.out,HE.out,if_neg C2.out,hc,Bool.and_false];exact GotI.mk (W0:=(w.alloc (.cells #[.int .i64 m.g.w,.int .i64 m.g.h,.slice A m.br.length c] 28)).alloc (.cells #[.slice (some ⟨bb,off,none⟩) t.length d] 30)) (R_empty _ _ (bw_size bel)) (by simp only[szs];omega),bel⟩
   have HC:=Lib.hid hc
   go_wp2_with (first|(go_at_call 148;refine(spec_l01In _ _ _ _).mono ?_;rintro e w' ⟨rfl,rfl⟩)|(go_at_call 237;refine(spec_l03Has m _ A c _ (by exact Kd.C_below hr bel) hn).mono ?_;rintro e w1 ⟨rfl,Ba⟩;obtain⟨Ca,Fa,Za⟩:=bcell Ba;(try simp only[szs] at Za);have Bb:=far2;obtain⟨Cb,Fb,Zb⟩:=bcell Bb;(try simp only[szs] at Zb);try (first|obtain⟨Ya,Yb,Yc,Yd⟩:=lts4 Zb|obtain⟨Ya,Yb,Yc⟩:=lts3 Zb|obtain⟨Ya,Yb⟩:=lts2 Zb|have Ya:=lts1 Zb);have hb9:=Ba)|(at_builtin;refine app_int (W0:=(w.alloc (.cells #[.int .i64 m.g.w,.int .i64 m.g.h,.slice A m.br.length c] 28)).alloc (.cells #[.slice (some ⟨bb,off,none⟩) t.length d] 30)) rfl (.tmp 51) (.tmp 56) 26 3 rfl Tryz.underlying26 info_int _ out _ rfl rfl (by exact Kd.R_below HO bel) bel (by omega) ?_;intro v1 w1 HO1 HB1;obtain⟨Ca,Fa,Za⟩:=bcell HB1;(try simp only[szs] at Za);have Bb:=HB1;have hb9:=HB1)|(go_at_call 177;refine(spec_NextNode m.g _ _ _).mono ?_;rintro e w1 ⟨rfl,Ba⟩;obtain⟨Ca,Fa,Za⟩:=bcell Ba;(try simp only[szs] at Za);have Bb:=far2;obtain⟨Cb,Fb,Zb⟩:=bcell Bb;(try simp only[szs] at Zb);try (first|obtain⟨Ya,Yb,Yc,Yd⟩:=lts4 Zb|obtain⟨Ya,Yb,Yc⟩:=lts3 Zb|obtain⟨Ya,Yb⟩:=lts2 Zb|have Ya:=lts1 Zb);have hb9:=Ba))
   have key:walkFrom m t b a []=walkFrom m t b (nextNode m.g n p) (out++[4*n+p]):=by
    rw[HW.out,HE.out,if_neg C2.out,hi,HC.out];rfl
   go_roundg ((nodeCount m.g).toNat - out.length)
   case measure=>have:=hlen.out;omega
   case rel=>exact⟨out++[4*n+p],_,rfl,Lib.hid (next_live p0 p7 hm HC.out),Lib.hid (by simp;omega),Lib.hid key,(by exact Kd.R_below HO1 bel),bel⟩
  ·go_wp2
   go_ret
   exact⟨by rw[HW.out,walk_over (by omega)];exact GotI.mk (W0:=(w.alloc (.cells #[.int .i64 m.g.w,.int .i64 m.g.h,.slice A m.br.length c] 28)).alloc (.cells #[.slice B t.length d] 30)) (R_empty _ _ (bw_size bel)) (by simp only[szs];omega),bel⟩
theorem spec_l04Sized (m:Mesh) (t:List Int) (A B:Option Addr) (c d:Nat) (w:World) (hr:Kd.C (Kd.int .i64) w A m.br.length m.br) (hn:m.br.length≤2097152) (hk:t.length≤2097152) :
    Calls Tryz.prog 225 #[.agg #[.int .i64 m.g.w,.int .i64 m.g.h,.slice A m.br.length c],.agg #[.slice B t.length d]] w fun e w'=>e=.returned (.bool (sized m t))∧Below w.heap.size w w':=by
  obtain⟨n0,n1⟩:=count_le m.g
  have p5:0≤nodeCount m.g*nodeCount m.g:=Int.mul_nonneg n0 n0
  have p6:nodeCount m.g*nodeCount m.g≤256:=Int.mul_le_mul n1 n1 n0 (by omega)
  go_enter Tryz.func225,Tryz.ntmps225
  cases hm:meshOk m
  · go_wp2_with (first|(go_at_call 93;refine(spec_NodeCount m.g _).mono ?_;rintro e w1 ⟨rfl,Ba⟩;obtain⟨Ca,Fa,Za⟩:=bcell Ba;(try simp only[szs] at Za);have Bb:=far2;obtain⟨Cb,Fb,Zb⟩:=bcell Bb;(try simp only[szs] at Zb);try (first|obtain⟨Ya,Yb,Yc,Yd⟩:=lts4 Zb|obtain⟨Ya,Yb,Yc⟩:=lts3 Zb|obtain⟨Ya,Yb⟩:=lts2 Zb|have Ya:=lts1 Zb);have hb9:=Ba)|(go_at_call 236;refine(spec_MeshOk m _ _ _ (by exact Kd.C_below hr bel) hn).mono ?_;rintro e w1 ⟨rfl,Ba⟩;obtain⟨Ca,Fa,Za⟩:=bcell Ba;(try simp only[szs] at Za);have Bb:=far2;obtain⟨Cb,Fb,Zb⟩:=bcell Bb;(try simp only[szs] at Zb);try (first|obtain⟨Ya,Yb,Yc,Yd⟩:=lts4 Zb|obtain⟨Ya,Yb,Yc⟩:=lts3 Zb|obtain⟨Ya,Yb⟩:=lts2 Zb|have Ya:=lts1 Zb);have hb9:=Ba))
    go_ret
    exact⟨ret_bool (by simp[sized,hm]),bel⟩
  · go_wp2_with (first|(go_at_call 93;refine(spec_NodeCount m.g _).mono ?_;rintro e w1 ⟨rfl,Ba⟩;obtain⟨Ca,Fa,Za⟩:=bcell Ba;(try simp only[szs] at Za);have Bb:=far2;obtain⟨Cb,Fb,Zb⟩:=bcell Bb;(try simp only[szs] at Zb);try (first|obtain⟨Ya,Yb,Yc,Yd⟩:=lts4 Zb|obtain⟨Ya,Yb,Yc⟩:=lts3 Zb|obtain⟨Ya,Yb⟩:=lts2 Zb|have Ya:=lts1 Zb);have hb9:=Ba)|(go_at_call 236;refine(spec_MeshOk m _ _ _ (by exact Kd.C_below hr bel) hn).mono ?_;rintro e w1 ⟨rfl,Ba⟩;obtain⟨Ca,Fa,Za⟩:=bcell Ba;(try simp only[szs] at Za);have Bb:=far2;obtain⟨Cb,Fb,Zb⟩:=bcell Bb;(try simp only[szs] at Zb);try (first|obtain⟨Ya,Yb,Yc,Yd⟩:=lts4 Zb|obtain⟨Ya,Yb,Yc⟩:=lts3 Zb|obtain⟨Ya,Yb⟩:=lts2 Zb|have Ya:=lts1 Zb);have hb9:=Ba))
    go_ret
    exact⟨ret_bool (by simp[sized,hm];first|done|rfl|(rw[Bool.eq_iff_iff];simp)),bel⟩

theorem impl_TableOk_1 (m:Mesh) (t:List Int) (a b:Int) (A B:Option Addr) (c d gm gt:Nat) (w:World) (hr:Kd.C (Kd.int .i64) w A m.br.length m.br) (hn:m.br.length≤2097152) (ht:Kd.C (Kd.int .i64) w B t.length t) (hk:t.length≤2097152)
    (h0:w.cell? ⟨gm,0,none⟩=some (.int .i64 m.g.w)) (h1:w.cell? ⟨gm,1,none⟩=some (.int .i64 m.g.h)) (h2:w.cell? ⟨gm,2,none⟩=some (.slice A m.br.length c)) (h3:w.cell? ⟨gt,0,none⟩=some (.slice B t.length d)) :
    Calls Tryz.prog 164 #[.int .i64 a,.int .i64 b,.pointer (some ⟨gm,0,none⟩),.pointer (some ⟨gt,0,none⟩)] w fun e w'=>e=.returned (.bool (decide (0<(wt m t a b).length)))∧Below w.heap.size w w':=by
  go_enter Tryz.func164,Tryz.ntmps164
  go_wp2_with (go_at_call 44;refine(impl_WalkTable m t a b A B c d _ (by exact Kd.C_below hr bel) hn (by exact Kd.C_below ht bel) hk).mono ?_;rintro e w1 ⟨hg1,Ba⟩;obtain⟨A1,c1,rfl,hk1,hr1⟩:=hg1.read;obtain⟨Ca,Fa,Za⟩:=bcell Ba;(try simp only[szs] at Za);have Bb:=far2;obtain⟨Cb,Fb,Zb⟩:=bcell Bb;(try simp only[szs] at Zb);try (first|obtain⟨Ya,Yb,Yc,Yd⟩:=lts4 Zb|obtain⟨Ya,Yb,Yc⟩:=lts3 Zb|obtain⟨Ya,Yb⟩:=lts2 Zb|have Ya:=lts1 Zb);have hb9:=Ba)
  go_ret
  exact⟨ret_bool (by first|rfl|simp),bel⟩

set_option maxHeartbeats 1000000 in
theorem impl_pairs_TableOk (m:Mesh) (t:List Int) (A B:Option Addr) (c d gm gt:Nat) (w:World) (hr:Kd.C (Kd.int .i64) w A m.br.length m.br) (hn:m.br.length≤2097152) (ht:Kd.C (Kd.int .i64) w B t.length t) (hk:t.length≤2097152)
  (h0:w.cell? ⟨gm,0,none⟩=some (.int .i64 m.g.w)) (h1:w.cell? ⟨gm,1,none⟩=some (.int .i64 m.g.h)) (h2:w.cell? ⟨gm,2,none⟩=some (.slice A m.br.length c)) (h3:w.cell? ⟨gt,0,none⟩=some (.slice B t.length d)) :
  Calls Tryz.prog 163 #[.agg #[.int .i64 m.g.w,.int .i64 m.g.h],.func (.func 164) #[] #[.pointer (some ⟨gm,0,none⟩),.pointer (some ⟨gt,0,none⟩)]] w fun e w'=>e=.returned (.bool (pairsOk m t))∧Below w.heap.size w w':=by
 obtain⟨n0,n1⟩:=count_le m.g
 obtain⟨n,hnn⟩:∃ n:Nat,nodeCount m.g=(n:Int):=⟨(nodeCount m.g).toNat,by omega⟩
 have hn16:n≤16:=by omega
 have hN:nN m.g=n:=by unfold nN;omega
 have HN:=Lib.hid hN
 have HC:=Lib.hid hnn
 clear hN n0 n1 hnn
 have g0:=World.block_lt_of_cell? w _ h0
 have g1:=World.block_lt_of_cell? w _ h3
 have hcall:∀ (a b:Int) (w':World),Below w.heap.size w w'→Calls Tryz.prog 164 #[.int .i64 a,.int .i64 b,.pointer (some ⟨gm,0,none⟩),.pointer (some ⟨gt,0,none⟩)] w' fun e w''=>e=.returned (.bool (decide (0<(wt m t a b).length)))∧Below w'.heap.size w' w'':=by
  intro a b w' hb
  obtain⟨hc,_,_⟩:=bcell hb
  exact impl_TableOk_1 m t a b A B c d gm gt w' (Kd.C_below hr hb) hn (Kd.C_below ht hb) hk ((hc _ _ g0).trans h0) ((hc _ _ g0).trans h1) ((hc _ _ g0).trans h2) ((hc _ _ g1).trans h3)
 have HCALL:=Lib.hid hcall
 clear hcall h0 h1 h2 h3 g0 g1
 go_enter Tryz.func163,Tryz.ntmps163
 go_wp2_with (go_at_call 51;refine(impl_NodeCount m.g _).mono ?_;rintro e w1 ⟨he,Ba⟩;rw[HC.out] at he;subst he;obtain⟨Ca,Fa,Za⟩:=bcell Ba;(try simp only[szs] at Za);have Bb:=far2;obtain⟨Cb,Fb,Zb⟩:=bcell Bb;(try simp only[szs] at Zb);try (first|obtain⟨Ya,Yb,Yc,Yd⟩:=lts4 Zb|obtain⟨Ya,Yb,Yc⟩:=lts3 Zb|obtain⟨Ya,Yb⟩:=lts2 Zb|have Ya:=lts1 Zb);have hb9:=Ba)
 go_loopw [11] (fun i wr=>∃ a:Nat,a≤n∧i=.int .i64 a∧Hid (∀ x,x<a→allI (nN m.g) (pairOk m t x)=true)∧Below w.heap.size w wr) (fun i _=>n - (intOf i).toNat)
 case atStart=>exact⟨0,Nat.zero_le _,rfl,Lib.hid fun x h=>absurd h (Nat.not_lt_zero _),bel⟩
 case round=>
  obtain⟨a,ha,rfl,HA,HB⟩:=hrel
  by_cases hlt:a<n
  ·obtain⟨wo,rfl⟩:∃ wo:World,wo=wr:=⟨_,rfl⟩
   go_wp2
   go_loopw [15] (fun i wr=>∃ b:Nat,b≤n∧i=.int .i64 b∧Hid (∀ x,x<b→pairOk m t a x=true)∧Below w.heap.size w wr) (fun i _=>n - (intOf i).toNat)
   case atStart=>exact⟨0,Nat.zero_le _,rfl,Lib.hid fun x h=>absurd h (Nat.not_lt_zero _),HB⟩
   case round=>
    obtain⟨b,hb,rfl,HA2,HB2⟩:=hrel
    by_cases hlt2:b<n
    ·by_cases e:a=b
     ·have e1:((a:Int) != (b:Int))=false:=by simp[e]
      have E:=Lib.hid e
      clear e
      go_wp2
      go_roundw
      case rel=>exact⟨b+1,by omega,by go_num,Lib.hid (upto HA2.out (by simp[pairOk,E.out])),bel⟩
      case measure=>simp[intOf];omega
     ·have e1:((a:Int) != (b:Int))=true:=bne_iff_ne.2 (by omega)
      have E:=Lib.hid e
      clear e
      cases hp:decide (0<(wt m t (a:Int) (b:Int)).length)
      ·have HP:=Lib.hid hp
       clear hp
       go_wp2_with (go_at_call 164;refine(HCALL.out _ _ _ (by exact bel)).mono ?_;rintro e w1 ⟨he,Ba⟩;rw[HP.out] at he;subst he;obtain⟨Ca,Fa,Za⟩:=bcell Ba;(try simp only[szs] at Za);have Bb:=far2;obtain⟨Cb,Fb,Zb⟩:=bcell Bb;(try simp only[szs] at Zb);try (first|obtain⟨Ya,Yb,Yc,Yd⟩:=lts4 Zb|obtain⟨Ya,Yb,Yc⟩:=lts3 Zb|obtain⟨Ya,Yb⟩:=lts2 Zb|have Ya:=lts1 Zb);have hb9:=Ba)
       go_ret
       exact⟨ret_bool (allI_false a (by rw[HN.out];exact hlt) (allI_false b (by rw[HN.out];exact hlt2) (by simp[pairOk,E.out,HP.out]))).symm,bel⟩
      ·have HP:=Lib.hid hp
       clear hp
       go_wp2_with (go_at_call 164;refine(HCALL.out _ _ _ (by exact bel)).mono ?_;rintro e w1 ⟨he,Ba⟩;rw[HP.out] at he;subst he;obtain⟨Ca,Fa,Za⟩:=bcell Ba;(try simp only[szs] at Za);have Bb:=far2;obtain⟨Cb,Fb,Zb⟩:=bcell Bb;(try simp only[szs] at Zb);try (first|obtain⟨Ya,Yb,Yc,Yd⟩:=lts4 Zb|obtain⟨Ya,Yb,Yc⟩:=lts3 Zb|obtain⟨Ya,Yb⟩:=lts2 Zb|have Ya:=lts1 Zb);have hb9:=Ba)
       go_roundw
       case rel=>exact⟨b+1,by omega,by go_num,Lib.hid (upto HA2.out (by simp[pairOk,E.out,HP.out])),bel⟩
       case measure=>simp[intOf];omega
    ·go_wp2
     go_roundw
     case rel=>exact⟨a+1,by omega,by go_num,Lib.hid (upto HA.out (allI_true (fun x hx=>HA2.out x (by rw[HN.out] at hx;omega)))),bel⟩
     case measure=>simp[intOf];omega
  ·go_wp2
   go_ret
   exact⟨ret_bool (allI_true (fun x hx=>HA.out x (by rw[HN.out] at hx;omega))).symm,bel⟩

set_option maxHeartbeats 1000000 in
theorem impl_TableOk (m:Mesh) (t:List Int) (A B:Option Addr) (c d:Nat) (w:World) (hr:Kd.C (Kd.int .i64) w A m.br.length m.br) (hn:m.br.length≤2097152) (ht:Kd.C (Kd.int .i64) w B t.length t) (hk:t.length≤2097152) :
  Calls Tryz.prog 97 #[.agg #[.int .i64 m.g.w,.int .i64 m.g.h,.slice A m.br.length c],.agg #[.slice B t.length d]] w fun e w'=>e=.returned (.bool (tableOk m t))∧Below w.heap.size w w':=by
 have htk:=tableOk_parts m t
 have HTK:=Lib.hid htk
 obtain⟨n0,n1⟩:=count_le m.g
 obtain⟨n,hnn⟩:∃ n:Nat,nodeCount m.g=(n:Int):=⟨(nodeCount m.g).toNat,by omega⟩
 have hn16:n≤16:=by omega
 have hN:nN m.g=n:=by unfold nN;omega
 have HN:=Lib.hid hN
 have HC:=Lib.hid hnn
 clear hN n0 n1 hnn htk
 have p5:0≤(n:Int)*(n:Int):=Int.mul_nonneg (by omega) (by omega)
 have p6:(n:Int)*(n:Int)≤256:=by
  have:=Int.mul_le_mul (show (n:Int)≤16 by omega) (show (n:Int)≤16 by omega) (show 0≤(n:Int) by omega) (by omega)
  omega
 go_enter Tryz.func97,Tryz.ntmps97
 cases hm:meshOk m
 ·go_wp2_with (first|(go_at_call 51;refine(impl_NodeCount m.g _).mono ?_;rintro e w1 ⟨he,Ba⟩;rw[HC.out] at he;subst he;obtain⟨Ca,Fa,Za⟩:=bcell Ba;(try simp only[szs] at Za);have Bb:=far2;obtain⟨Cb,Fb,Zb⟩:=bcell Bb;(try simp only[szs] at Zb);try (first|obtain⟨Ya,Yb,Yc,Yd⟩:=lts4 Zb|obtain⟨Ya,Yb,Yc⟩:=lts3 Zb|obtain⟨Ya,Yb⟩:=lts2 Zb|have Ya:=lts1 Zb);have hb9:=Ba)|(go_at_call 99;refine(impl_MeshOk m _ _ _ (by exact Kd.C_below hr bel) hn).mono ?_;rintro e w1 ⟨rfl,Ba⟩;obtain⟨Ca,Fa,Za⟩:=bcell Ba;(try simp only[szs] at Za);have Bb:=far2;obtain⟨Cb,Fb,Zb⟩:=bcell Bb;(try simp only[szs] at Zb);try (first|obtain⟨Ya,Yb,Yc,Yd⟩:=lts4 Zb|obtain⟨Ya,Yb,Yc⟩:=lts3 Zb|obtain⟨Ya,Yb⟩:=lts2 Zb|have Ya:=lts1 Zb);have hb9:=Ba))
  go_ret
  exact⟨ret_bool (by rw[HTK.out];simp[sized,hm]),bel⟩
 by_cases hs:(t.length:Int)=(n:Int)*(n:Int)
 ·have e1:((t.length:Int) != (n:Int)*(n:Int))=false:=bne_eq_false_iff_eq.2 hs
  have hsz:sized m t=true:=sized_iff.2 ⟨hm,by rw[HC.out];exact hs⟩
  have HSZ:=Lib.hid hsz
  have HS:=Lib.hid hs
  clear hs hsz
  go_wp2_with (first|(go_at_call 51;refine(impl_NodeCount m.g _).mono ?_;rintro e w1 ⟨he,Ba⟩;rw[HC.out] at he;subst he;obtain⟨Ca,Fa,Za⟩:=bcell Ba;(try simp only[szs] at Za);have Bb:=far2;obtain⟨Cb,Fb,Zb⟩:=bcell Bb;(try simp only[szs] at Zb);try (first|obtain⟨Ya,Yb,Yc,Yd⟩:=lts4 Zb|obtain⟨Ya,Yb,Yc⟩:=lts3 Zb|obtain⟨Ya,Yb⟩:=lts2 Zb|have Ya:=lts1 Zb);have hb9:=Ba)|(go_at_call 99;refine(impl_MeshOk m _ _ _ (by exact Kd.C_below hr bel) hn).mono ?_;rintro e w1 ⟨rfl,Ba⟩;obtain⟨Ca,Fa,Za⟩:=bcell Ba;(try simp only[szs] at Za);have Bb:=far2;obtain⟨Cb,Fb,Zb⟩:=bcell Bb;(try simp only[szs] at Zb);try (first|obtain⟨Ya,Yb,Yc,Yd⟩:=lts4 Zb|obtain⟨Ya,Yb,Yc⟩:=lts3 Zb|obtain⟨Ya,Yb⟩:=lts2 Zb|have Ya:=lts1 Zb);have hb9:=Ba))
  go_loopw [23] (fun i wr=>∃ a:Nat,a≤n∧i=.int .i64 a∧Hid (∀ x:Nat,x<a→(entry m t x x == 4)=true)∧Below ((w.alloc (.cells #[.int .i64 m.g.w,.int .i64 m.g.h,.slice A m.br.length c] 28)).alloc (.cells #[.slice B t.length d] 30)).heap.size ((w.alloc (.cells #[.int .i64 m.g.w,.int .i64 m.g.h,.slice A m.br.length c] 28)).alloc (.cells #[.slice B t.length d] 30)) wr) (fun i _=>n - (intOf i).toNat)
  case atStart=>exact⟨0,Nat.zero_le _,rfl,Lib.hid fun x h=>absurd h (Nat.not_lt_zero _),bel⟩
  case round=>
   obtain⟨a,ha,rfl,HA,HB⟩:=hrel
   obtain⟨hc0,hf0,hz0⟩:=bcell HB
   simp only[szs] at hz0
   by_cases hlt:a<n
   ·have hpl:=entry_place (g:=m.g) (a:=(a:Int)) (b:=(a:Int)) (isNode_nat (by rw[HN.out];exact hlt)) (isNode_nat (by rw[HN.out];exact hlt))
    rw[HC.out] at hpl
    obtain⟨q1,q2,q3,q4⟩:=hpl
    have q5:(a:Int)*(n:Int)+(a:Int)<(t.length:Int):=by rw[HS.out];exact q4
    clear q4
    obtain⟨bb,off,rfl,hbl,hx⟩:=rdI_at ht ((a:Int)*(n:Int)+(a:Int)).toNat (by omega)
    have hxe:=hx ((a:Int)*(n:Int)+(a:Int)).toNat (by omega)
    rw[Int.toNat_of_nonneg q3] at hxe
    obtain⟨z1,z2,z3,z4,z5,z6⟩:=more hbl
    clear hx
    obtain⟨p,hp⟩:∃ p,ri t ((a:Int)*(n:Int)+(a:Int))=p:=⟨_,rfl⟩
    rw[hp] at hxe
    have hpe:entry m t a a=p:=by unfold entry;rw[HC.out];exact hp
    have HP:=Lib.hid hpe
    clear hp hpe
    have htn:((a:Int)*(n:Int)+(a:Int)).toNat=a*n+a:=by omega
    rw[htn] at hxe
    have q6:a*n+a<t.length:=by omega
    clear htn
    by_cases c:p=4
    ·subst c
     go_wp2
     go_roundw
     case rel=>exact⟨a+1,by omega,by go_num,Lib.hid (upto HA.out (by rw[HP.out];rfl)),bel⟩
     case measure=>simp[intOf];omega
    ·have e2:(p != 4)=true:=bne_iff_ne.2 c
     have C:=Lib.hid c
     clear c
     go_wp2
     go_ret
     exact⟨ret_bool (by rw[HTK.out,show diagOk m t=false from allI_false a (by rw[HN.out];exact hlt) (by rw[HP.out];simpa using C.out)];simp),bel⟩
   ·have hbd:diagOk m t=true:=allI_true (fun x hx=>HA.out x (by rw[HN.out] at hx;omega))
    have HBD:=Lib.hid hbd
    clear hbd
    go_wp2_with (go_at_call 163;refine(impl_pairs_TableOk m t A B c d _ _ _ (by exact Kd.C_below hr bel) hn (by exact Kd.C_below ht bel) hk ?_ ?_ ?_ ?_).mono ?_;go_simp;go_simp;go_simp;go_simp;rintro e w1 ⟨rfl,Ba⟩;obtain⟨Ca,Fa,Za⟩:=bcell Ba;(try simp only[szs] at Za);have Bb:=far2;obtain⟨Cb,Fb,Zb⟩:=bcell Bb;(try simp only[szs] at Zb);try (first|obtain⟨Ya,Yb,Yc,Yd⟩:=lts4 Zb|obtain⟨Ya,Yb,Yc⟩:=lts3 Zb|obtain⟨Ya,Yb⟩:=lts2 Zb|have Ya:=lts1 Zb);have hb9:=Ba)
    go_ret
    exact⟨ret_bool (by rw[HTK.out,HSZ.out,HBD.out];simp),bel⟩
 ·have e1:((t.length:Int) != (n:Int)*(n:Int))=true:=bne_iff_ne.2 hs
  have HS:=Lib.hid hs
  clear hs
  go_wp2_with (first|(go_at_call 51;refine(impl_NodeCount m.g _).mono ?_;rintro e w1 ⟨he,Ba⟩;rw[HC.out] at he;subst he;obtain⟨Ca,Fa,Za⟩:=bcell Ba;(try simp only[szs] at Za);have Bb:=far2;obtain⟨Cb,Fb,Zb⟩:=bcell Bb;(try simp only[szs] at Zb);try (first|obtain⟨Ya,Yb,Yc,Yd⟩:=lts4 Zb|obtain⟨Ya,Yb,Yc⟩:=lts3 Zb|obtain⟨Ya,Yb⟩:=lts2 Zb|have Ya:=lts1 Zb);have hb9:=Ba)|(go_at_call 99;refine(impl_MeshOk m _ _ _ (by exact Kd.C_below hr bel) hn).mono ?_;rintro e w1 ⟨rfl,Ba⟩;obtain⟨Ca,Fa,Za⟩:=bcell Ba;(try simp only[szs] at Za);have Bb:=far2;obtain⟨Cb,Fb,Zb⟩:=bcell Bb;(try simp only[szs] at Zb);try (first|obtain⟨Ya,Yb,Yc,Yd⟩:=lts4 Zb|obtain⟨Ya,Yb,Yc⟩:=lts3 Zb|obtain⟨Ya,Yb⟩:=lts2 Zb|have Ya:=lts1 Zb);have hb9:=Ba))
  go_ret
  exact⟨ret_bool (by rw[HTK.out];simp[sized,HC.out,HS.out]),bel⟩

set_option maxHeartbeats 1000000 in
theorem spec_TableOk (m:Mesh) (t:List Int) (A B:Option Addr) (c d:Nat) (w:World) (hr:Kd.C (Kd.int .i64) w A m.br.length m.br) (hn:m.br.length≤2097152) (ht:Kd.C (Kd.int .i64) w B t.length t) (hk:t.length≤2097152) :
  Calls Tryz.prog 192 #[.agg #[.int .i64 m.g.w,.int .i64 m.g.h,.slice A m.br.length c],.agg #[.slice B t.length d]] w fun e w'=>e=.returned (.bool (tableOk m t))∧Below w.heap.size w w':=by
 have htk:=tableOk_cells m t
 have HTK:=Lib.hid htk
 obtain⟨n0,n1⟩:=count_le m.g
 obtain⟨n,hnn⟩:∃ n:Nat,nodeCount m.g=(n:Int):=⟨(nodeCount m.g).toNat,by omega⟩
 have hn16:n≤16:=by omega
 have hN:nN m.g=n:=by unfold nN;omega
 have HN:=Lib.hid hN
 have HC:=Lib.hid hnn
 clear hN n0 n1 hnn htk
 go_enter Tryz.func192,Tryz.ntmps192
 cases hsz:sized m t
 ·go_wp2_with (go_at_call 225;refine(spec_l04Sized m t A B _ _ _ (by exact Kd.C_below hr bel) hn hk).mono ?_;rintro e w1 ⟨rfl,Ba⟩;obtain⟨Ca,Fa,Za⟩:=bcell Ba;(try simp only[szs] at Za);have Bb:=far2;obtain⟨Cb,Fb,Zb⟩:=bcell Bb;(try simp only[szs] at Zb);try (first|obtain⟨Ya,Yb,Yc,Yd⟩:=lts4 Zb|obtain⟨Ya,Yb,Yc⟩:=lts3 Zb|obtain⟨Ya,Yb⟩:=lts2 Zb|have Ya:=lts1 Zb);have hb9:=Ba)
  go_ret
  exact⟨ret_bool (by rw[HTK.out,hsz];rfl),bel⟩
 have hs:=(sized_iff.1 hsz).2
 rw[HC.out] at hs
 have HS:=Lib.hid hs
 clear hs
 go_wp2_with (first|(go_at_call 225;refine(spec_l04Sized m t A B _ _ _ (by exact Kd.C_below hr bel) hn hk).mono ?_;rintro e w1 ⟨rfl,Ba⟩;obtain⟨Ca,Fa,Za⟩:=bcell Ba;(try simp only[szs] at Za);have Bb:=far2;obtain⟨Cb,Fb,Zb⟩:=bcell Bb;(try simp only[szs] at Zb);try (first|obtain⟨Ya,Yb,Yc,Yd⟩:=lts4 Zb|obtain⟨Ya,Yb,Yc⟩:=lts3 Zb|obtain⟨Ya,Yb⟩:=lts2 Zb|have Ya:=lts1 Zb);have hb9:=Ba)|(go_at_call 93;refine(spec_NodeCount m.g _).mono ?_;rintro e w1 ⟨he,Ba⟩;rw[HC.out] at he;subst he;obtain⟨Ca,Fa,Za⟩:=bcell Ba;(try simp only[szs] at Za);have Bb:=far2;obtain⟨Cb,Fb,Zb⟩:=bcell Bb;(try simp only[szs] at Zb);try (first|obtain⟨Ya,Yb,Yc,Yd⟩:=lts4 Zb|obtain⟨Ya,Yb,Yc⟩:=lts3 Zb|obtain⟨Ya,Yb⟩:=lts2 Zb|have Ya:=lts1 Zb);have hb9:=Ba))
 go_loopw [6] (fun i wr=>∃ a:Nat,a≤n∧i=.int .i64 a∧Hid (∀ x:Nat,x<a→allI (nN m.g) (cellOk m t x)=true)∧Below ((w.alloc (.cells #[.int .i64 m.g.w,.int .i64 m.g.h,.slice A m.br.length c] 28)).alloc (.cells #[.slice B t.length d] 30)).heap.size ((w.alloc (.cells #[.int .i64 m.g.w,.int .i64 m.g.h,.slice A m.br.length c] 28)).alloc (.cells #[.slice B t.length d] 30)) wr) (fun i _=>n - (intOf i).toNat)
 case atStart=>exact⟨0,Nat.zero_le _,rfl,Lib.hid fun x h=>absurd h (Nat.not_lt_zero _),bel⟩
 case round=>
  obtain⟨a,ha,rfl,HA,HB⟩:=hrel
  by_cases hlt:a<n
  ·obtain⟨wo,rfl⟩:∃ wo:World,wo=wr:=⟨_,rfl⟩
   go_wp2
   go_loopw [7] (fun i wr=>∃ b:Nat,b≤n∧i=.int .i64 b∧Hid (∀ x,x<b→cellOk m t a x=true)∧Below ((w.alloc (.cells #[.int .i64 m.g.w,.int .i64 m.g.h,.slice A m.br.length c] 28)).alloc (.cells #[.slice B t.length d] 30)).heap.size ((w.alloc (.cells #[.int .i64 m.g.w,.int .i64 m.g.h,.slice A m.br.length c] 28)).alloc (.cells #[.slice B t.length d] 30)) wr) (fun i _=>n - (intOf i).toNat)
   case atStart=>exact⟨0,Nat.zero_le _,rfl,Lib.hid fun x h=>absurd h (Nat.not_lt_zero _),HB⟩
   case round=>
    have HBo:=Lib.hid HB
    clear HB
    obtain⟨b,hb,rfl,HA2,HB⟩:=hrel
    obtain⟨hc0,hf0,hz0⟩:=bcell HB
    simp only[szs] at hz0
    by_cases hlt2:b<n
    ·have hna:=isNode_nat (g:=m.g) (a:=a) (by rw[HN.out];exact hlt)
     have hnb:=isNode_nat (g:=m.g) (a:=b) (by rw[HN.out];exact hlt2)
     have HNA:=Lib.hid hna
     have HNB:=Lib.hid hnb
     clear hna hnb
     by_cases e:a=b
     ·subst e
      have hpl:=entry_place HNA.out HNA.out
      rw[HC.out] at hpl
      obtain⟨q1,q2,q3,q4⟩:=hpl
      have q5:(a:Int)*(n:Int)+(a:Int)<(t.length:Int):=by rw[HS.out];exact q4
      clear q4
      obtain⟨bb,off,rfl,hbl,hx⟩:=rdI_at ht ((a:Int)*(n:Int)+(a:Int)).toNat (by omega)
      have hxe:=hx ((a:Int)*(n:Int)+(a:Int)).toNat (by omega)
      rw[Int.toNat_of_nonneg q3] at hxe
      obtain⟨z1,z2,z3,z4,z5,z6⟩:=more hbl
      clear hx
      obtain⟨p,hp⟩:∃ p,ri t ((a:Int)*(n:Int)+(a:Int))=p:=⟨_,rfl⟩
      rw[hp] at hxe
      have hpe:entry m t a a=p:=by unfold entry;rw[HC.out];exact hp
      have HP:=Lib.hid hpe
      clear hp hpe
      have htn:((a:Int)*(n:Int)+(a:Int)).toNat=a*n+a:=by omega
      rw[htn] at hxe
      have q6:a*n+a<t.length:=by omega
      clear htn
      have e1:((a:Int) == (a:Int))=true:=beq_self_eq_true _
      have e2:((a:Int) != (a:Int))=false:=by simp
      by_cases c:p=4
      ·subst c
       go_wp2
       go_roundw
       case rel=>exact⟨a+1,by omega,by go_num,Lib.hid (upto HA2.out (by simp[cellOk,HP.out])),bel⟩
       case measure=>simp[intOf];omega
      ·have e3:(p != 4)=true:=bne_iff_ne.2 c
       have C:=Lib.hid c
       clear c
       go_wp2
       go_ret
       exact⟨ret_bool (by rw[HTK.out,allI_false a (by rw[HN.out];exact hlt) (allI_false a (by rw[HN.out];exact hlt) (by simp[cellOk,HP.out,C.out])),Bool.and_false]),bel⟩
     ·have e1:((a:Int) == (b:Int))=false:=beq_eq_false_iff_ne.2 (by omega)
      have e2:((a:Int) != (b:Int))=true:=bne_iff_ne.2 (by omega)
      have E:=Lib.hid e
      clear e
      have SZ2:=Lib.hid hsz
      by_cases c:(walkFrom m t b a []).length=0
      ·have e3:(((walkFrom m t b a []).length:Int) == 0)=true:=by simp[c]
       have C:=Lib.hid c
       clear c
       go_wp2_with (go_at_call 226;refine(spec_l04Walk m t a b A B _ _ _ (by exact Kd.C_below hr bel) hn (by exact Kd.C_below ht bel) SZ2.out HNA.out HNB.out).mono ?_;rintro e w1 ⟨hg1,Ba⟩;obtain⟨A1,c1,rfl,hk1,hr1⟩:=hg1.read;obtain⟨Ca,Fa,Za⟩:=bcell Ba;(try simp only[szs] at Za);have Bb:=far2;obtain⟨Cb,Fb,Zb⟩:=bcell Bb;(try simp only[szs] at Zb);try (first|obtain⟨Ya,Yb,Yc,Yd⟩:=lts4 Zb|obtain⟨Ya,Yb,Yc⟩:=lts3 Zb|obtain⟨Ya,Yb⟩:=lts2 Zb|have Ya:=lts1 Zb);have hb9:=Ba)
       go_ret
       exact⟨ret_bool (by rw[HTK.out,allI_false a (by rw[HN.out];exact hlt) (allI_false b (by rw[HN.out];exact hlt2) (by simp only[cellOk,if_neg E.out,C.out];rfl)),Bool.and_false]),bel⟩
      ·have e3:(((walkFrom m t b a []).length:Int) == 0)=false:=beq_eq_false_iff_ne.2 (by omega)
       have C:=Lib.hid c
       clear c
       go_wp2_with (go_at_call 226;refine(spec_l04Walk m t a b A B _ _ _ (by exact Kd.C_below hr bel) hn (by exact Kd.C_below ht bel) SZ2.out HNA.out HNB.out).mono ?_;rintro e w1 ⟨hg1,Ba⟩;obtain⟨A1,c1,rfl,hk1,hr1⟩:=hg1.read;obtain⟨Ca,Fa,Za⟩:=bcell Ba;(try simp only[szs] at Za);have Bb:=far2;obtain⟨Cb,Fb,Zb⟩:=bcell Bb;(try simp only[szs] at Zb);try (first|obtain⟨Ya,Yb,Yc,Yd⟩:=lts4 Zb|obtain⟨Ya,Yb,Yc⟩:=lts3 Zb|obtain⟨Ya,Yb⟩:=lts2 Zb|have Ya:=lts1 Zb);have hb9:=Ba)
       go_roundw
       case rel=>exact⟨b+1,by omega,by go_num,Lib.hid (upto HA2.out (by have:=C.out;simp only[cellOk,if_neg E.out];exact decide_eq_true (by omega))),bel⟩
       case measure=>simp[intOf];omega
    ·go_wp2
     go_roundw
     case rel=>exact⟨a+1,by omega,by go_num,Lib.hid (upto HA.out (allI_true (fun x hx=>HA2.out x (by rw[HN.out] at hx;omega)))),bel⟩
     case measure=>simp[intOf];omega
  ·go_wp2
   go_ret
   exact⟨ret_bool (by rw[HTK.out,hsz,allI_true (fun x hx=>HA.out x (by rw[HN.out] at hx;omega))];rfl),bel⟩
def Arr (W:World) (b:Nat) (t:TypeId) (cs:Array Value):Prop:=W.heap[b]?=some (.cells cs t (0,0))
theorem Arr.lt {W:World} {b:Nat} {t:TypeId} {cs:Array Value} (h:Arr W b t cs):b<W.heap.size:=(Array.getElem?_eq_some_iff.1 h).1
theorem Arr.cell {W:World} {b:Nat} {t:TypeId} {cs:Array Value} (h:Arr W b t cs) (o:Nat):W.cell? ⟨b,o,none⟩=cs[o]?:=by
  unfold World.cell?
  rw[show W.heap[b]?=_ from h]
  rfl
theorem Arr.frozen {W:World} {b:Nat} {t:TypeId} {cs:Array Value} (h:Arr W b t cs) (o:Nat):W.frozen? ⟨b,o,none⟩=false:=by
  unfold World.frozen?
  rw[show W.heap[b]?=_ from h]
  simp
theorem Arr.new (W:World) (b:Nat) (t:TypeId) (cs:Array Value) (hb:b=W.heap.size):Arr (W.alloc (.cells cs t)) b t cs:=by
  subst hb
  exact(show (W.heap.push _)[W.heap.size]?=_ from Array.getElem?_push_size)
theorem Arr.below {W W1:World} {b:Nat} {t:TypeId} {cs:Array Value} (h:Arr W b t cs) (hb:Below W.heap.size W W1):Arr W1 b t cs:=(hb.block b h.lt).trans h
theorem Arr.set {W:World} {b:Nat} {t:TypeId} {cs:Array Value} (h:Arr W b t cs) (i:Nat) (v:Value):Arr (W.setCell ⟨b,i,none⟩ v) b t (cs.setIfInBounds i v):=by
  show (W.heap.modify b _)[b]?=_
  have hlt:=h.lt
  have h2:W.heap[b]?=some (.cells cs t (0,0)):=h
  rw[Array.getElem?_eq_getElem hlt] at h2
  injection h2 with h2
  rw[Array.getElem?_eq_getElem (by rw[Array.size_modify];exact hlt),Array.getElem_modify_self,h2]
  rfl
theorem Arr.other {W:World} {b:Nat} {t:TypeId} {cs:Array Value} (h:Arr W b t cs) (g i:Nat) (v:Value) (hne:b≠g):Arr (W.setCell ⟨g,i,none⟩ v) b t cs:=
  (Below.heap_setCell W ⟨g,i,none⟩ v b hne).trans h
theorem and255 (x:Int):0≤bits .and .i64 x 255∧bits .and .i64 x 255≤255:=by
  have h255:(BitVec.ofInt 64 255).toNat=2 ^ 8 - 1:=by decide
  have key:(BitVec.ofInt 64 x &&& BitVec.ofInt 64 255).toNat=(x % ((2 ^ 64:Nat):Int)).toNat % 2 ^ 8:=by
    rw[BitVec.toNat_and,BitVec.toNat_ofInt,h255,Nat.and_two_pow_sub_one_eq_mod]
  show 0≤IntKind.i64.wrap ((BitVec.ofInt 64 x &&& BitVec.ofInt 64 255).toNat:Nat)∧IntKind.i64.wrap ((BitVec.ofInt 64 x &&& BitVec.ofInt 64 255).toNat:Nat)≤255
  rw[key,IntKind.wrap_i64]
  omega
theorem grown_cell (W:World) (b k:Nat) (v:Value):W.grownBy (W.setCell ⟨b,k,none⟩ v) (some b):=
  ⟨rfl,rfl,rfl,(KeepsWalks.setCell W _ v).size,fun j _ hj=>Below.heap_setCell _ _ _ j (fun e=>hj (by rw[e]))⟩
theorem grown_drew (W:World) (r:Option Nat):W.grownBy W.drew r:=⟨rfl,rfl,rfl,Nat.le_refl _,fun _ _ _=>rfl⟩
theorem rdU_at {w:World} {A:Option Addr} {l:List Int} (h:Kd.C (Kd.int .u8) w A l.length l) (k:Nat) (hk:k<l.length) :
    ∃ b off,A=some ⟨b,off,none⟩∧b<w.heap.size∧∀ j,j<l.length→w.cell? ⟨b,off+j,none⟩=some (.int .u8 (NoC.ri l j)):=by
  have key:∀ j,j<l.length→∃ ad,A=some ad∧w.cell? (ad.add j)=some (.int .u8 (NoC.ri l j)):=by
    intro j hj
    obtain⟨ad,cs,e,_,hK,hc⟩:=Kd.C_get h 0 (j:Int) (by omega) (by omega)
    have hK':cs=[.int .u8 (l.getD (j:Int).toNat 0)]:=hK
    subst hK'
    have:=hc 0 _ rfl
    refine⟨ad,e,?_⟩
    have e2:(j:Int).toNat*(Kd.int .u8).sz+0=j:=by show (j:Int).toNat*1+0=j;omega
    rw[e2] at this
    exact this
  obtain⟨ad,rfl,h0⟩:=key 0 (by omega)
  have hs:ad.spot=none:=by
    cases hsp:ad.spot with
    | none=>rfl
    | some s=>
      have:ad.add 0=ad:=by simp[Addr.add]
      rw[this] at h0
      unfold World.cell? at h0
      split at h0
      · simp[hsp] at h0
      · simp at h0
  obtain⟨b,off,sp⟩:=ad
  simp only at hs
  subst hs
  refine⟨b,off,rfl,World.block_lt_of_cell? w _ h0,fun j hj=>?_⟩
  obtain⟨ad,e,h1⟩:=key j hj
  obtain rfl:=Option.some.inj e
  rwa [show (⟨b,off,none⟩:Addr).add j=⟨b,off+j,none⟩ by unfold Addr.add;split <;> simp_all] at h1
def Cur (w:World) (b B0:Nat):Prop:=B0≤b∧∃ A N c i h,Arr w b 129 #[.slice A N c,.int .i64 i,.int .i64 h]∧0≤i∧N≤140737488355328∧∀ n:Nat,n<N→∃ B off u,A=some ⟨B,off,none⟩∧B<B0∧w.cell? ⟨B,off+n,none⟩=some (.int .u8 u)
theorem Cur.lt {w:World} {b B0:Nat} (h:Cur w b B0):b<w.heap.size:=by
  obtain⟨_,A,N,c,i,x,ha,_⟩:=h
  exact ha.lt
theorem Cur.grown {w w1:World} {b B0:Nat} {row:Option Nat} (h:Cur w b B0) (hg:w.grownBy w1 row) (hr:∀ k,row=some k→B0≤k∧k≠b):Cur w1 b B0:=by
  have hlt:=h.lt
  obtain⟨h0,A,N,c,i,x,ha,hi,hN,hk⟩:=h
  refine⟨h0,A,N,c,i,x,(hg.block b hlt (fun e=>(hr b e.symm).2 rfl)).trans ha,hi,hN,fun n hn=>?_⟩
  obtain⟨B,off,u,e,hB,hc⟩:=hk n hn
  refine⟨B,off,u,e,hB,?_⟩
  rw[←hc]
  have:=hg.block B (by omega) (fun e=>by have:=(hr B e.symm).1;omega)
  unfold World.cell?
  rw[this]
theorem Cur.below {w w1:World} {b B0:Nat} (h:Cur w b B0) (hg:Below w.heap.size w w1):Cur w1 b B0:=h.grown (grown_below none hg) (fun k e=>by cases e)
theorem Cur.set {w:World} {b B0:Nat} {A:Option Addr} {N c:Nat} {i h:Int} (h0:B0≤b) (ha:Arr w b 129 #[.slice A N c,.int .i64 i,.int .i64 h]) (hN:N≤140737488355328)
    (hk:∀ n:Nat,n<N→∃ B off u,A=some ⟨B,off,none⟩∧B<B0∧w.cell? ⟨B,off+n,none⟩=some (.int .u8 u)) {w1:World} (hg:w.grownBy w1 (some b)) {i1 h1:Int} (hi:0≤i1) (h1a:Arr w1 b 129 #[.slice A N c,.int .i64 i1,.int .i64 h1]):Cur w1 b B0:=by
  have hlt:=ha.lt
  refine⟨h0,A,N,c,i1,h1,h1a,hi,hN,fun n hn=>?_⟩
  obtain⟨B,off,u,e,hB,hc⟩:=hk n hn
  refine⟨B,off,u,e,hB,?_⟩
  rw[←hc]
  have:=hg.block B (by omega) (fun e=>by injection e with e;omega)
  unfold World.cell?
  rw[this]
theorem gt_drew {w W:World} {r:Option Nat} (h:w.grownBy W r):w.grownBy W.drew r:=grown_trans h (grown_drew W r)
theorem gt_cell {w W:World} {b:Nat} (k:Nat) (v:Value) (h:w.grownBy W (some b)):w.grownBy (W.setCell ⟨b,k,none⟩ v) (some b):=grown_trans h (grown_cell W b k v)
set_option maxHeartbeats 1000000 in
theorem spec_l01Byte (b B0:Nat) (w:World) (HC:Cur w b B0):Calls Tryz.prog 95 #[.pointer (some ⟨b,0,none⟩)] w fun e w'=>∃ x:Int,e=.returned (.int .i64 x)∧0≤x∧x≤255∧Cur w' b B0∧w.grownBy w' (some b):=by
  obtain⟨h0,A,N,c,i,h,ha,hi,hN,hk⟩:=HC
  have hlt:=ha.lt
  have c0:w.cell? ⟨b,0,none⟩=some (.slice A N c):=ha.cell 0
  have c1:w.cell? ⟨b,1,none⟩=some (.int .i64 i):=ha.cell 1
  have c2:w.cell? ⟨b,2,none⟩=some (.int .i64 h):=ha.cell 2
  have f1:=ha.frozen 1
  have f2:=ha.frozen 2
  have HK:=Lib.hid hk
  have HA:=Lib.hid ha
  clear hk ha
  by_cases hl:i<N
  · obtain⟨n,rfl⟩:∃ n:Nat,i=n:=⟨i.toNat,by omega⟩
    obtain⟨B,off,u,rfl,hB,hx⟩:=HK.out n (by omega)
    have hne:B≠b:=by omega
    go_enter Tryz.func95,Tryz.ntmps95
    go_wp2
    go_region
    go_wp2
    go_region
    go_wp2
    go_region
    go_wp2
    go_ret
    refine⟨_,rfl,(and255 _).1,(and255 _).2,Cur.set h0 HA.out hN HK.out (i1:=(n:Int)+1) ?_ (by omega) (by exact((HA.out).set 2 _).set 1 _),?_⟩
    all_goals (with_reducible repeat (first|exact World.grownBy.refl _ _|apply gt_cell|apply gt_drew))
  · go_enter Tryz.func95,Tryz.ntmps95
    go_wp2
    go_region
    go_wp2
    go_region
    go_wp2
    go_ret
    refine⟨_,rfl,(and255 _).1,(and255 _).2,Cur.set h0 HA.out hN HK.out (i1:=i) ?_ (by omega) (by exact(HA.out).set 2 _),?_⟩
    all_goals (with_reducible repeat (first|exact World.grownBy.refl _ _|apply gt_cell|apply gt_drew))
set_option maxHeartbeats 1000000 in
theorem spec_l01Below (b B0:Nat) (n:Int) (w:World) (HC:Cur w b B0) (n0:0<n) (n1:n≤1000000000):Calls Tryz.prog 39 #[.pointer (some ⟨b,0,none⟩),.int .i64 n] w fun e w'=>∃ x:Int,e=.returned (.int .i64 x)∧0≤x∧x<n∧Cur w' b B0∧w.grownBy w' (some b):=by
  have HG:w.grownBy w (some b):=World.grownBy.refl _ _
  by_cases hl:n≤256
  · go_enter Tryz.func39,Tryz.ntmps39
    go_wp2_with (go_at_call 95;refine(spec_l01Byte b B0 _ HC).mono ?_;rintro e w1 ⟨x,rfl,x0,x1,HC1,hg1⟩)
    go_ret
    exact⟨_,rfl,Int.emod_nonneg _ (by omega),Int.emod_lt_of_pos _ n0,HC1,hg1⟩
  · go_enter Tryz.func39,Tryz.ntmps39
    go_wp2_with (go_at_call 95;refine(spec_l01Byte b B0 _ HC).mono ?_;rintro e w1 ⟨x,rfl,x0,x1,HC1,hg1⟩;replace HG:=grown_trans HG hg1;replace HC:=HC1)
    go_ret
    exact⟨_,rfl,Int.emod_nonneg _ (by omega),Int.emod_lt_of_pos _ n0,HC,HG⟩
set_option maxHeartbeats 1000000 in
theorem spec_l01PickInt (b B0 g cap:Nat) (xs:List Int) (w:World) (HC:Cur w b B0) (hg:g≠b) (hlt:g<w.heap.size) (hx:∀ k:Nat,k<xs.length→w.cell? ⟨g,k,none⟩=some (.int .i64 (ri xs k))) (h0:0<xs.length) (h1:xs.length≤1000) (hcap:xs.length≤cap) :
    Calls Tryz.prog 159 #[.pointer (some ⟨b,0,none⟩),.slice (some ⟨g,0,none⟩) xs.length cap] w fun e w'=>∃ j:Nat,j<xs.length∧e=.returned (.int .i64 (ri xs j))∧Cur w' b B0∧w.grownBy w' (some b):=by
  go_enter Tryz.func159,Tryz.ntmps159
  go_wp2_with (go_at_call 39;refine(spec_l01Below b B0 _ _ HC (by omega) (by omega)).mono ?_;rintro e w1 ⟨x,rfl,x0,x1,HC1,hg1⟩;obtain⟨j,rfl⟩:∃ j:Nat,x=j:=⟨x.toNat,by omega⟩;have hxj:=hg1.cell (hx j (by omega)) (by intro e;injection e with e;exact hg e))
  go_ret
  exact⟨j,by omega,rfl,HC1,hg1⟩
theorem gt_alloc {w W:World} {r:Option Nat} (o:Obj) (h:w.grownBy W r):w.grownBy (W.alloc o) r:=grown_trans h (World.grownBy_alloc W o r)
theorem gt_own {w W:World} {r:Option Nat} {g:Nat} (k:Nat) (v:Value) (h:w.grownBy W r) (hg:w.heap.size≤g):w.grownBy (W.setCell ⟨g,k,none⟩ v) r:=
  ⟨h.os,h.tape,h.output,Nat.le_trans h.size (KeepsWalks.setCell W _ v).size,fun j hj hne=>(Below.heap_setCell W ⟨g,k,none⟩ v j (by show j≠g;omega)).trans (h.block j hj hne)⟩
theorem Cur.far {w:World} {b B0 g:Nat} (k:Nat) (v:Value) (h:Cur w b B0) (hg:b<g):Cur (w.setCell ⟨g,k,none⟩ v) b B0:=
  h.grown (grown_cell w g k v) (fun j e=>by injection e with e;have:=h.1;omega)
theorem ri_pick (j:Nat) (h:j<6):1≤ri [1,2,2,3,3,4] j∧ri [1,2,2,3,3,4] j≤4:=by
  rcases (by omega:j=0∨j=1∨j=2∨j=3∨j=4∨j=5) with rfl|rfl|rfl|rfl|rfl|rfl <;> decide
theorem cells_pick (W:World) (g:Nat) (hg:g=W.heap.size) (k:Nat) (h:k<6):(W.alloc (.cells #[.int .i64 1,.int .i64 2,.int .i64 2,.int .i64 3,.int .i64 3,.int .i64 4] 3)).cell? ⟨g,k,none⟩=some (.int .i64 (ri [1,2,2,3,3,4] k)):=by
  rw[(Box.new W g _ 3 hg).get k]
  rcases (by omega:k=0∨k=1∨k=2∨k=3∨k=4∨k=5) with rfl|rfl|rfl|rfl|rfl|rfl <;> rfl
set_option maxHeartbeats 1000000 in
theorem spec_l02Grid (b B0:Nat) (w:World) (HC:Cur w b B0):Calls Tryz.prog 92 #[.pointer (some ⟨b,0,none⟩)] w fun e w'=>∃ g:Grid,e=.returned (.agg #[.int .i64 g.w,.int .i64 g.h])∧1≤g.w∧g.w≤4∧1≤g.h∧g.h≤4∧Cur w' b B0∧w.grownBy w' (some b):=by
  have hb:=HC.lt
  go_enter Tryz.func92,Tryz.ntmps92
  go_wp2_with (first
    | (go_at_call 159;have HR2:=HR1;refine(spec_l01PickInt b B0 _ 6 [1,2,2,3,3,4] _ (HC.below bel) (by omega) (by simp only[szs];omega) (fun k h=>cells_pick _ _ (by simp only[szs]) k h) (by decide) (by decide) (by decide)).mono ?_;rintro e w2 ⟨j2,hj2,rfl,HC2,hg2⟩;obtain⟨p3,p4⟩:=ri_pick j2 hj2;have Zb:=hg2.size;simp only[szs] at Zb;have HR3:Arr w2 w.heap.size 25 #[.int .i64 0,.int .i64 0]:=(hg2.block _ (by simp only[szs];omega) (by intro e;injection e with e;omega)).trans (HR2.below (bw_alloc _ (bw_refl _)));have x0:w2.cell? ⟨w.heap.size,0,none⟩=some (.int .i64 0):=HR3.cell 0;have x1:w2.cell? ⟨w.heap.size,1,none⟩=some (.int .i64 0):=HR3.cell 1;have x2:=HR3.frozen 0;have x3:=HR3.frozen 1)
    | (go_at_call 159;refine(spec_l01PickInt b B0 _ 6 [1,2,2,3,3,4] _ (HC.below bel) (by omega) (by simp only[szs];omega) (fun k h=>cells_pick _ _ (by simp only[szs]) k h) (by decide) (by decide) (by decide)).mono ?_;rintro e w1 ⟨j1,hj1,rfl,HC1,hg1⟩;obtain⟨p1,p2⟩:=ri_pick j1 hj1;have Za:=hg1.size;simp only[szs] at Za;have HR1:Arr w1 w.heap.size 25 #[.int .i64 0,.int .i64 0]:=(hg1.block _ (by simp only[szs];omega) (by intro e;injection e with e;omega)).trans ((Arr.new w w.heap.size 25 #[.int .i64 0,.int .i64 0] rfl).below (bw_alloc _ (bw_refl _)));replace HC:=HC1))
  have e1:w.grownBy w2 (some b):=grown_trans (grown_trans (gt_alloc _ (gt_alloc _ (World.grownBy.refl _ _))) hg1) (grown_trans (gt_alloc _ (World.grownBy.refl _ _)) hg2)
  refine bodyPost_ret (v:=.agg #[.int .i64 (ri [1,2,2,3,3,4] j1),.int .i64 (ri [1,2,2,3,3,4] j2)]) (by simp[results,Tryz.results92,go_sem, *]) rfl ?_
  refine⟨⟨_,_⟩,rfl,p1,p2,p3,p4,Cur.far _ _ (Cur.far _ _ HC2 hb) hb,gt_own _ _ (gt_own _ _ e1 (Nat.le_refl _)) (Nat.le_refl _)⟩
def Byt (w:World) (A:Option Addr) (N:Nat):Prop:=N≤140737488355328∧∀ n:Nat,n<N→∃ B off u,A=some ⟨B,off,none⟩∧B<w.heap.size∧w.cell? ⟨B,off+n,none⟩=some (.int .u8 u)
theorem Byt.below {w w1:World} {A:Option Addr} {N:Nat} (h:Byt w A N) (hb:Below w.heap.size w w1):Byt w1 A N:=
  ⟨h.1,fun n hn=>by
    obtain⟨B,off,u,e,hB,hc⟩:=h.2 n hn
    exact⟨B,off,u,e,Nat.lt_of_lt_of_le hB hb.size,((bcell hb).1 B _ hB).trans hc⟩⟩
theorem cur_new {w:World} {A:Option Addr} {N:Nat} (c:Nat) (x:Int) (h:Byt w A N):Cur (w.alloc (.cells #[.slice A N c,.int .i64 0,.int .i64 x] 129)) w.heap.size w.heap.size:=
  ⟨Nat.le_refl _,A,N,c,0,x,Arr.new w _ _ _ rfl,by omega,h.1,fun n hn=>by
    obtain⟨B,off,u,e,hB,hc⟩:=h.2 n hn
    exact⟨B,off,u,e,hB,((bcell (bw_alloc _ (bw_refl w))).1 B _ hB).trans hc⟩⟩
set_option maxHeartbeats 1000000 in
theorem spec_l01New (A:Option Addr) (N c:Nat) (w:World) (HX:Byt w A N):Calls Tryz.prog 36 #[.slice A N c] w fun e w'=>∃ b,e=.returned (.pointer (some ⟨b,0,none⟩))∧w.heap.size≤b∧Cur w' b w.heap.size∧Below w.heap.size w w':=by
  have hN:=HX.1
  go_enter Tryz.func36,Tryz.ntmps36
  go_wp2
  go_loop [3,4] (fun h i=>∃ (k:Nat) (x:Int),i=.int .i64 k∧h=.int .i64 x∧k≤N) (fun _ i=>N - (intOf i).toNat)
  case atStart=>exact⟨0,_,rfl,rfl,Nat.zero_le _⟩
  case round=>
    obtain⟨k,x,rfl,rfl,hk⟩:=hrel
    by_cases hlt:k<N
    · obtain⟨B,off,u,rfl,hB,hc⟩:=HX.2 k hlt
      have i0:(k:Int)<(N:Int):=by omega
      by_cases h4:(k:Int)<4000
      · go_wp2
        go_round
        case rel=>exact⟨k+1,_,by go_num,rfl,by omega⟩
        case measure=>simp[intOf];omega
      · go_wp2
        go_ret
        exact⟨_,rfl,Nat.le_refl _,cur_new _ _ HX,bel⟩
    · go_wp2
      go_ret
      exact⟨_,rfl,Nat.le_refl _,cur_new _ _ HX,bel⟩
theorem bw_cur {w W W1:World} {b:Nat} (h:Below w.heap.size w W) (hg:W.grownBy W1 (some b)) (hb:w.heap.size≤b):Below w.heap.size w W1:=
  h.grown hg h.size (fun k hk=>by injection hk with hk;omega)
section
variable {P:Program} {ops:Array Oper} {rest:List Oper} {o:Oper} {a:Act} {Q:Exit→Act→World→Prop}
end
end Go.Proofs.YtodbglncccgdbaaGreat
