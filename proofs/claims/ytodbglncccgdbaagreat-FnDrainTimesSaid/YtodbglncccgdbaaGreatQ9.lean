/- Lemmas for laws of this seat, for all inputs: CpN MG St StG. -/
import Derived.Test.YtodbglncccgdbaaGreatQ8
import Derived.Test.YtodbglncccgdbaaGreatQ4
import Derived.Test.YtodbglncccgdbaaGreatQ1
set_option linter.unusedVariables false
set_option linter.unusedSimpArgs false
namespace Go.Proofs.YtodbglncccgdbaaGreat
open Go.RowKit Go.Proofs.YtodbglncccgdbaaGreatW.PrintWords
open NoC
def GotNX (w w':World) (n:Net) (e:Ending):Prop:=∃ q v4 v7 v8,e=.returned (.agg (netCells n q))∧NX w' w.heap.size n q v4 v7 v8
theorem own_within {w:World} {base e sz n:Nat} {v:Value} {xs:List Value} (h:w.ownsRow base e sz v n xs):Within v base w.heap.size:=fun k hk=>⟨own_base h k hk,own_lt h k hk⟩
theorem FR.append {w:World} {lo:Nat} {vs us:List Value} {l m:List (List Flit)} (h:FR w lo vs l) (k:FR w lo us m) (ha:∀ i j:Nat,i<l.length→j<m.length→Apart (vr vs i) (vr us j)):FR w lo (vs++us) (l++m):=by
  have hl:=h.len
  have e1:∀ i:Nat,i<l.length→vr (vs++us) i=vr vs i:=fun i hi=>vr_left (by omega)
  have e2:∀ i:Nat,vr (vs++us) (l.length+i)=vr us i:=fun i=>by rw[←hl];exact vr_right
  refine⟨by simp[hl,k.len],fun i hi=>?_,fun i j hij hj=>?_⟩
  · rw[List.length_append] at hi
    by_cases e:i<l.length
    · rw[e1 i e,rl_left e]
      exact h.row i e
    · obtain⟨d,rfl⟩:∃ d,i=l.length+d:=⟨i - l.length,by omega⟩
      rw[e2,rl_right]
      exact k.row d (by omega)
  · rw[List.length_append] at hj
    by_cases e:j<l.length
    · rw[e1 i (by omega),e1 j e]
      exact h.ap i j hij e
    · obtain⟨d,rfl⟩:∃ d,j=l.length+d:=⟨j - l.length,by omega⟩
      rw[e2]
      by_cases e3:i<l.length
      · rw[e1 i e3]
        exact ha i d e3 (by omega)
      · obtain⟨c,rfl⟩:∃ c,i=l.length+c:=⟨i - l.length,by omega⟩
        rw[e2]
        exact k.ap c d (by omega) (by omega)
theorem FR.set {w:World} {lo:Nat} {vs:List Value} {l:List (List Flit)} (h:FR w lo vs l) {g:Nat} (hg:g<lo) (j:Nat) (u:Value):FR (w.setCell ⟨g,j,none⟩ u) lo vs l:=
  ⟨h.len,fun i hi=>R_off (h.row i hi) hg j u,h.ap⟩
theorem all5 {v0 v1 v2 v3 v4:Value} (h01:Ap0 v0 v1) (h02:Ap0 v0 v2) (h03:Ap0 v0 v3) (h04:Ap0 v0 v4) (h12:Ap0 v1 v2) (h13:Ap0 v1 v3) (h14:Ap0 v1 v4) (h23:Ap0 v2 v3) (h24:Ap0 v2 v4) (h34:Ap0 v3 v4):AllAp0 5 [v0,v1,v2,v3,v4]:=by
  intro i j hij hj
  rcases (by omega:j=1∨j=2∨j=3∨j=4) with rfl|rfl|rfl|rfl
  · obtain rfl:i=0:=by omega
    exact h01
  · rcases (by omega:i=0∨i=1) with rfl|rfl
    · exact h02
    · exact h12
  · rcases (by omega:i=0∨i=1∨i=2) with rfl|rfl|rfl
    · exact h03
    · exact h13
    · exact h23
  · rcases (by omega:i=0∨i=1∨i=2∨i=3) with rfl|rfl|rfl|rfl
    · exact h04
    · exact h14
    · exact h24
    · exact h34
theorem all3 {v0 v1 v2:Value} (h01:Apart v0 v1) (h02:Apart v0 v2) (h12:Apart v1 v2):AllAp 3 [v0,v1,v2]:=by
  intro i j hij hj
  rcases (by omega:j=1∨j=2) with rfl|rfl
  · obtain rfl:i=0:=by omega
    exact h01
  · rcases (by omega:i=0∨i=1) with rfl|rfl
    · exact h02
    · exact h12
theorem NX.off {w:World} {lo:Nat} {n:Net} {q:NA} {v4 v7 v8:List Value} (h:NX w lo n q v4 v7 v8) {g:Nat} (hg:g<lo) (j:Nat) (u:Value):NX (w.setCell ⟨g,j,none⟩ u) lo n q v4 v7 v8:=by
  have ne:∀ {e m:Nat} {v:Value} {xs:List Value},w.ownsRow lo e 1 v m xs→some g≠v.ownBlock:=fun ho e=>by
    have:=own_base ho g e.symm
    omega
  exact⟨R_off h.br hg j u,R_off h.pa hg j u,R_off h.pb hg j u,R_off h.owners hg j u,R_off h.turns hg j u,own_setCell h.bufs (p:=⟨g,j,none⟩) (ne h.bufs) u,own_setCell h.srcs (p:=⟨g,j,none⟩) (ne h.srcs) u,own_setCell h.arrs (p:=⟨g,j,none⟩) (ne h.arrs) u,h.rows.set hg j u,h.apI,h.apO⟩
structure OXU (w:World) (lo hi:Nat) (v:Value) (l:List (List Flit)) (vs:List Value):Prop where
  own:w.ownsRow lo 145 1 v l.length vs
  top:Within v lo hi
  rows:FR w lo vs l
  wit:∀ i:Nat,i<l.length→Within (vr vs i) lo hi
theorem OXU.stp {w w1:World} {lo hi:Nat} {v:Value} {l:List (List Flit)} {vs:List Value} (h:OXU w lo hi v l vs) (hs:Stp w w1):OXU w1 lo hi v l vs:=⟨pw_own_below h.own hs.h,h.top,h.rows.below hs.h,h.wit⟩
structure PX where
  A:Option Addr
  c:Nat
  A2:Option Addr
  c2:Nat
  vs:List Value
  lo:Nat
  hi:Nat
def PX.mk0 (A:Option Addr) (c lo hi:Nat):PX:=⟨A,c,none,0,[],lo,hi⟩
def gI (p:Nat) (y:PX) (xs:List Int) (w:World):Prop:=p≤y.lo∧y.lo≤y.hi∧y.hi≤w.heap.size∧RU (Kd.int .i64) 3 w y.lo y.hi (.slice y.A xs.length y.c) xs
def gC (p:Nat) (y:PX) (xs ys:List Int) (w:World):Prop:=p≤y.lo∧y.lo≤y.hi∧y.hi≤w.heap.size∧RU (Kd.int .i64) 3 w y.lo y.hi (.slice y.A xs.length y.c) xs∧RU (Kd.int .i64) 3 w y.lo y.hi (.slice y.A2 ys.length y.c2) ys∧Apart (.slice y.A xs.length y.c) (.slice y.A2 ys.length y.c2)
def gL (p:Nat) (y:PX) (l:List (List Flit)) (w:World):Prop:=p≤y.lo∧y.lo≤y.hi∧y.hi≤w.heap.size∧OXU w y.lo y.hi (.slice y.A l.length y.c) l y.vs
def gA (B p:Nat) (y:PX) (xs:List Int) (w:World):Prop:=p≤y.lo∧y.lo≤y.hi∧y.hi≤w.heap.size∧Kd.R (Kd.int .i64) 3 w B (fun _=>True) (.slice y.A xs.length y.c) xs∧(xs.length=0∨Within (.slice y.A xs.length y.c) y.lo y.hi)
theorem gI.stp {p:Nat} {y:PX} {xs:List Int} {w w1:World} (h:gI p y xs w) (hs:Stp w w1):gI p y xs w1:=⟨h.1,h.2.1,Nat.le_trans h.2.2.1 hs.h.size,h.2.2.2.below hs.h⟩
theorem gC.stp {p:Nat} {y:PX} {xs ys:List Int} {w w1:World} (h:gC p y xs ys w) (hs:Stp w w1):gC p y xs ys w1:=⟨h.1,h.2.1,Nat.le_trans h.2.2.1 hs.h.size,h.2.2.2.1.below hs.h,h.2.2.2.2.1.below hs.h,h.2.2.2.2.2⟩
theorem gL.stp {p:Nat} {y:PX} {l:List (List Flit)} {w w1:World} (h:gL p y l w) (hs:Stp w w1):gL p y l w1:=⟨h.1,h.2.1,Nat.le_trans h.2.2.1 hs.h.size,h.2.2.2.stp hs⟩
theorem gA.stp {B p:Nat} {y:PX} {xs:List Int} {w w1:World} (h:gA B p y xs w) (hs:Stp w w1):gA B p y xs w1:=⟨h.1,h.2.1,Nat.le_trans h.2.2.1 hs.h.size,Kd.R_below h.2.2.2.1 hs.h,h.2.2.2.2⟩
theorem ap0_of {u v:Value} (h:Apart u v):Ap0 u v:=.inr (.inr h)
theorem NX.parts {w:World} {B:Nat} {n:Net} {ym yc yb yo yt ys ya:PX} (hm:gI B ym n.mesh.br w) (hc:gC ym.hi yc n.pa n.pb w) (hb:gL yc.hi yb n.bufs w) (ho:gA B yb.hi yo n.owners w) (ht:gA B yo.hi yt n.turns w) (hs:gL yt.hi ys n.srcs w) (ha:gL ys.hi ya n.arrs w) :
    NX w B n ⟨ym.A,yc.A,yc.A2,yb.A,yo.A,yt.A,ys.A,ya.A,ym.c,yc.c,yc.c2,yb.c,yo.c,yt.c,ys.c,ya.c⟩ yb.vs ys.vs ya.vs:=by
  obtain⟨m1,m2,m3,m4⟩:=hm
  obtain⟨c1,c2,c3,c4,c5,c6⟩:=hc
  obtain⟨b1,b2,b3,b4⟩:=hb
  obtain⟨o1,o2,o3,o4,o5⟩:=ho
  obtain⟨t1,t2,t3,t4,t5⟩:=ht
  obtain⟨s1,s2,s3,s4⟩:=hs
  obtain⟨a1,a2,a3,a4⟩:=ha
  have hW:∀ {v:Value} {p q r s:Nat} {u:Value} {k:Nat},Within u p q→(k=0∨Within v r s)→q≤r→vlen v=k→Ap0 u v:=fun h1 h2 h3 h4=>by
    rcases h2 with h2|h2
    · exact .inr (.inl (h4.trans h2))
    · exact .inr (.inr (apart_lt h1 h2 h3))
  refine⟨Kd.R_lower m4.row m1,Kd.R_lower c4.row (by omega),Kd.R_lower c5.row (by omega),o4,t4,own_weaken b4.own (by omega),own_weaken s4.own (by omega),own_weaken a4.own (by omega),?_,?_,?_⟩
  · refine(b4.rows.lower (by omega)).append ((s4.rows.lower (by omega)).append (a4.rows.lower (by omega)) (fun i j hi hj=>apart_lt (s4.wit i hi) (a4.wit j hj) a1)) (fun i j hi hj=>?_)
    rw[List.length_append] at hj
    by_cases e:j<n.srcs.length
    · rw[vr_left (by rw[s4.rows.len];exact e)]
      exact apart_lt (b4.wit i hi) (s4.wit j e) (by omega)
    · obtain⟨d,rfl⟩:∃ d,j=n.srcs.length+d:=⟨j - n.srcs.length,by omega⟩
      rw[←s4.rows.len,vr_right]
      exact apart_lt (b4.wit i hi) (a4.wit d (by omega)) (by omega)
  · refine all5 (ap0_of (apart_lt m4.within c4.within c1)) (ap0_of (apart_lt m4.within c5.within c1)) (hW m4.within o5 (by omega) rfl) (hW m4.within t5 (by omega) rfl) (ap0_of c6) (hW c4.within o5 (by omega) rfl) (hW c4.within t5 (by omega) rfl) (hW c5.within o5 (by omega) rfl) (hW c5.within t5 (by omega) rfl) ?_
    rcases o5 with o5|o5
    · exact .inl o5
    · exact hW o5 t5 (by omega) rfl
  · exact all3 (apart_lt b4.top s4.top (by omega)) (apart_lt b4.top a4.top (by omega)) (apart_lt s4.top a4.top (by omega))
theorem gA.of {B p g:Nat} {w w1:World} {v1:Value} {A:Option Addr} {c:Nat} {xs:List Int} (hp:p≤w.heap.size) (hr:Kd.R (Kd.int .i64) 3 w1 B (fun _=>True) v1 xs) (hv:v1=.slice A xs.length c) (hb:Below w.heap.size w w1) (ha:At2 g w.heap.size w1.heap.size v1) (hg:g<w.heap.size) (hL:Lit 3 w g):gA B p (PX.mk0 A c w.heap.size w1.heap.size) xs w1:=by
  subst hv
  refine⟨hp,hb.size,Nat.le_refl _,hr,?_⟩
  by_cases h0:xs.length=0
  · exact .inl h0
  · right
    intro k hk
    rcases ha k hk with e|e
    · exfalso
      subst e
      obtain⟨inner,hin⟩:=Kd.R_own hr
      obtain⟨g',cap,e1,h1,h2⟩:=hin.form (by omega)
      have hk2:(Value.slice A xs.length c).ownBlock=some k:=hk
      rw[e1] at hk2
      have e2:g'=k:=Option.some.inj hk2
      subst e2
      rcases hin.2 with ⟨_,e3⟩|⟨g'',cap',cur,e3,h4,h5,h6,h7,h8,h9⟩
      · omega
      · rw[e1] at e3
        injection e3 with e4 e5 e6
        injection e4 with e4
        injection e4 with e4
        subst e4
        have Cb:=hb.block g' hg
        rw[h5] at Cb
        unfold Lit at hL
        rw[hL] at Cb
        have hc3:=Obj.cells.inj (Option.some.inj Cb)
        rw[hc3.1] at h8
        have h11:(0:Nat)=cap'*1:=h8
        omega
    · exact e
set_option maxHeartbeats 8000000 in
set_option maxRecDepth 100000 in
theorem impl_copyNet (n:Net) (q:NA) (w:World) (hr:NetR 153 w n q):Calls Tryz.prog 54 #[.agg (netCells n q)] w fun e w'=>GotNX w w' n e∧Below w.heap.size w w':=by
 have R:=Lib.hid hr
 clear hr
 obtain⟨a1,a2,a3,a4,a5,a6,a7,a8,c1,c2,c3,c4,c5,c6,c7,c8⟩:=q
 dsimp only [netCells]
 have hX:∀ W,Stp ((w.alloc (.cells #[.int .i64 n.mesh.g.w,.int .i64 n.mesh.g.h,.slice a1 n.mesh.br.length c1,.slice a2 n.pa.length c2,.slice a3 n.pb.length c3,.slice a4 n.bufs.length c4,.slice a5 n.owners.length c5,.slice a6 n.turns.length c6,.slice a7 n.srcs.length c7,.slice a8 n.arrs.length c8,.int .i64 n.time] 42)).alloc (.cells #[.int .i64 0,.int .i64 0,.slice none 0 0,.slice none 0 0,.slice none 0 0,.slice none 0 0,.slice none 0 0,.slice none 0 0,.slice none 0 0,.slice none 0 0,.int .i64 0] 42)) W→W.cell? ⟨w.heap.size,0,none⟩=some (.int .i64 n.mesh.g.w)∧W.cell? ⟨w.heap.size,1,none⟩=some (.int .i64 n.mesh.g.h)∧W.cell? ⟨w.heap.size,2,none⟩=some (.slice a1 n.mesh.br.length c1)∧W.cell? ⟨w.heap.size,3,none⟩=some (.slice a2 n.pa.length c2)∧W.cell? ⟨w.heap.size,4,none⟩=some (.slice a3 n.pb.length c3)∧W.cell? ⟨w.heap.size,5,none⟩=some (.slice a4 n.bufs.length c4)∧W.cell? ⟨w.heap.size,6,none⟩=some (.slice a5 n.owners.length c5)∧W.cell? ⟨w.heap.size,7,none⟩=some (.slice a6 n.turns.length c6)∧W.cell? ⟨w.heap.size,8,none⟩=some (.slice a7 n.srcs.length c7)∧W.cell? ⟨w.heap.size,9,none⟩=some (.slice a8 n.arrs.length c8)∧W.cell? ⟨w.heap.size,10,none⟩=some (.int .i64 n.time):=by
  intro W hW
  have hb:=((Box.new w w.heap.size #[.int .i64 n.mesh.g.w,.int .i64 n.mesh.g.h,.slice a1 n.mesh.br.length c1,.slice a2 n.pa.length c2,.slice a3 n.pb.length c3,.slice a4 n.bufs.length c4,.slice a5 n.owners.length c5,.slice a6 n.turns.length c6,.slice a7 n.srcs.length c7,.slice a8 n.arrs.length c8,.int .i64 n.time] 42 rfl).alloc (.cells #[.int .i64 0,.int .i64 0,.slice none 0 0,.slice none 0 0,.slice none 0 0,.slice none 0 0,.slice none 0 0,.slice none 0 0,.slice none 0 0,.slice none 0 0,.int .i64 0] 42)).below hW.h
  exact⟨hb.get 0,hb.get 1,hb.get 2,hb.get 3,hb.get 4,hb.get 5,hb.get 6,hb.get 7,hb.get 8,hb.get 9,hb.get 10⟩
 have hRW:∀ W,Stp ((w.alloc (.cells #[.int .i64 n.mesh.g.w,.int .i64 n.mesh.g.h,.slice a1 n.mesh.br.length c1,.slice a2 n.pa.length c2,.slice a3 n.pb.length c3,.slice a4 n.bufs.length c4,.slice a5 n.owners.length c5,.slice a6 n.turns.length c6,.slice a7 n.srcs.length c7,.slice a8 n.arrs.length c8,.int .i64 n.time] 42)).alloc (.cells #[.int .i64 0,.int .i64 0,.slice none 0 0,.slice none 0 0,.slice none 0 0,.slice none 0 0,.slice none 0 0,.slice none 0 0,.slice none 0 0,.slice none 0 0,.int .i64 0] 42)) W→NetR 153 W n ⟨a1,a2,a3,a4,a5,a6,a7,a8,c1,c2,c3,c4,c5,c6,c7,c8⟩:=fun W hW=>R.out.below (bw_then (bw_alloc _ (bw_alloc _ (bw_refl w))) hW.h)
 have HX:=Lib.hid hX
 have HR:=Lib.hid hRW
 clear hX hRW
 go_enter Tryz.func54,Tryz.ntmps54
 go_wp2_with fail
 refine wp_region_lo (((w.alloc (.cells #[.int .i64 n.mesh.g.w,.int .i64 n.mesh.g.h,.slice a1 n.mesh.br.length c1,.slice a2 n.pa.length c2,.slice a3 n.pb.length c3,.slice a4 n.bufs.length c4,.slice a5 n.owners.length c5,.slice a6 n.turns.length c6,.slice a7 n.srcs.length c7,.slice a8 n.arrs.length c8,.int .i64 n.time] 42)).alloc (.cells #[.int .i64 0,.int .i64 0,.slice none 0 0,.slice none 0 0,.slice none 0 0,.slice none 0 0,.slice none 0 0,.slice none 0 0,.slice none 0 0,.slice none 0 0,.int .i64 0] 42))).heap.size (Stp (((w.alloc (.cells #[.int .i64 n.mesh.g.w,.int .i64 n.mesh.g.h,.slice a1 n.mesh.br.length c1,.slice a2 n.pa.length c2,.slice a3 n.pb.length c3,.slice a4 n.bufs.length c4,.slice a5 n.owners.length c5,.slice a6 n.turns.length c6,.slice a7 n.srcs.length c7,.slice a8 n.arrs.length c8,.int .i64 n.time] 42)).alloc (.cells #[.int .i64 0,.int .i64 0,.slice none 0 0,.slice none 0 0,.slice none 0 0,.slice none 0 0,.slice none 0 0,.slice none 0 0,.slice none 0 0,.slice none 0 0,.int .i64 0] 42)))) (fun _=>3) (fun i=>[.pointer (some ⟨w.heap.size,0,none⟩),.agg #[.int .i64 n.mesh.g.w,.int .i64 n.mesh.g.h,.slice a1 n.mesh.br.length c1],.int .i64 0,.pointer (some ⟨w.heap.size,3,none⟩),.agg #[.slice a2 n.pa.length c2,.slice a3 n.pb.length c3],.int .i64 0,.pointer (some ⟨w.heap.size,5,none⟩),.slice a4 n.bufs.length c4,.int .i64 0,.int .i64 0,.pointer (some ⟨w.heap.size,6,none⟩),.slice a5 n.owners.length c5,.int .i64 0,.int .i64 0,.pointer (some ⟨w.heap.size,7,none⟩),.slice a6 n.turns.length c6,.int .i64 0,.pointer (some ⟨w.heap.size,8,none⟩),.slice a7 n.srcs.length c7,.int .i64 0,.pointer (some ⟨w.heap.size,9,none⟩),.slice a8 n.arrs.length c8,.int .i64 0,.pointer (some ⟨w.heap.size,10,none⟩),.int .i64 n.time,.int .i64 0].getD i undef) 26 [(0,.quiet),(1,.quiet),(2,.chain),(3,.quiet),(4,.quiet),(5,.chain),(6,.quiet),(7,.quiet),(8,.chain),(9,.lit),(10,.quiet),(11,.quiet),(12,.chain),(13,.lit),(14,.quiet),(15,.quiet),(16,.chain),(17,.quiet),(18,.quiet),(19,.chain),(20,.quiet),(21,.quiet),(22,.chain),(23,.quiet),(24,.quiet),(25,.chain)] (by kernel_rfl) (by kernel_rfl) (by kernel_rfl) (by kernel_rfl) (by kernel_rfl) (by kernel_rfl) (by kernel_rfl) (by kernel_rfl) (fun W h=>h.h.size) (fun W W' h h'=>stp_then h h') (stp_drew (stp_refl _)) ?_
 refine wpLo_q (some 3) rfl rfl (by rfl) (fun W hC=>?_) ?_
 ·obtain⟨x0,x1,x2,x3,x4,x5,x6,x7,x8,x9,x10⟩:=HX.out W hC
  go_simp
  try rfl
 try simp only[Act.put,nms]
 refine wpLo_q (some 4) rfl rfl (by rfl) (fun W hC=>?_) ?_
 ·obtain⟨x0,x1,x2,x3,x4,x5,x6,x7,x8,x9,x10⟩:=HX.out W hC
  go_simp
  try rfl
 try simp only[Act.put,nms]
 refine wpLo_c (some 5) rfl rfl (by rfl) (PX.mk0 none 0 0 0) (fun y=>.agg #[.int .i64 n.mesh.g.w,.int .i64 n.mesh.g.h,.slice y.A n.mesh.br.length y.c]) (fun y W=>gI (((w.alloc (.cells #[.int .i64 n.mesh.g.w,.int .i64 n.mesh.g.h,.slice a1 n.mesh.br.length c1,.slice a2 n.pa.length c2,.slice a3 n.pb.length c3,.slice a4 n.bufs.length c4,.slice a5 n.owners.length c5,.slice a6 n.turns.length c6,.slice a7 n.srcs.length c7,.slice a8 n.arrs.length c8,.int .i64 n.time] 42)).alloc (.cells #[.int .i64 0,.int .i64 0,.slice none 0 0,.slice none 0 0,.slice none 0 0,.slice none 0 0,.slice none 0 0,.slice none 0 0,.slice none 0 0,.slice none 0 0,.int .i64 0] 42))).heap.size y n.mesh.br W) (fun y W W' h h'=>h.stp h') (fun W hF hC=>?_) (fun ym=>?_)
 ·refine LoOp.enter (by go_simp;first|done|exact⟨rfl,rfl⟩|rfl) ?_
  refine(impl_copyMesh n.mesh a1 c1 W (HR.out W hC).br (HR.out W hC).h1).mono ?_
  rintro e W1 ⟨hg1,Ba⟩
  obtain⟨v,rfl,hO⟩:=hg1
  obtain⟨A,c,rfl⟩:=Kd.R_slice hO
  exact⟨_,rfl,PX.mk0 A c W.heap.size W1.heap.size,rfl,⟨Ba⟩,hC.h.size,Ba.size,Nat.le_refl _,RU.of hO (Nat.le_refl _) (Nat.le_refl _)⟩
 try simp only[Act.put,nms]
 refine wpLo_q (some 6) rfl rfl (by rfl) (fun W hC=>?_) ?_
 ·obtain⟨x0,x1,x2,x3,x4,x5,x6,x7,x8,x9,x10⟩:=HX.out W hC
  go_simp
  try rfl
 try simp only[Act.put,nms]
 refine wpLo_q (some 7) rfl rfl (by rfl) (fun W hC=>?_) ?_
 ·obtain⟨x0,x1,x2,x3,x4,x5,x6,x7,x8,x9,x10⟩:=HX.out W hC
  go_simp
  try rfl
 try simp only[Act.put,nms]
 refine wpLo_c (some 8) rfl rfl (by rfl) (PX.mk0 none 0 0 0) (fun y=>.agg #[.slice y.A n.pa.length y.c,.slice y.A2 n.pb.length y.c2]) (fun y W=>gC ym.hi y n.pa n.pb W) (fun y W W' h h'=>h.stp h') (fun W hF hC=>?_) (fun yc=>?_)
 ·refine LoOp.enter (by go_simp;first|done|exact⟨rfl,rfl⟩|rfl) ?_
  refine(impl_copyClasses n.pa n.pb a2 a3 c2 c3 W (HR.out W hC).pa (HR.out W hC).h2 (HR.out W hC).pb (HR.out W hC).h3).mono ?_
  rintro e W1 ⟨hg1,Ba⟩
  obtain⟨va,vb,rfl,hO,hP,hap⟩:=hg1
  obtain⟨A,c,rfl⟩:=Kd.R_slice hO
  obtain⟨A2,c2,rfl⟩:=Kd.R_slice hP
  exact⟨_,rfl,⟨A,c,A2,c2,[],W.heap.size,W1.heap.size⟩,rfl,⟨Ba⟩,hF.2.2.2.1,Ba.size,Nat.le_refl _,RU.of hO (Nat.le_refl _) (Nat.le_refl _),RU.of hP (Nat.le_refl _) (Nat.le_refl _),hap⟩
 try simp only[Act.put,nms]
 refine wpLo_q (some 9) rfl rfl (by rfl) (fun W hC=>?_) ?_
 ·obtain⟨x0,x1,x2,x3,x4,x5,x6,x7,x8,x9,x10⟩:=HX.out W hC
  go_simp
  try rfl
 try simp only[Act.put,nms]
 refine wpLo_q (some 10) rfl rfl (by rfl) (fun W hC=>?_) ?_
 ·obtain⟨x0,x1,x2,x3,x4,x5,x6,x7,x8,x9,x10⟩:=HX.out W hC
  go_simp
  try rfl
 try simp only[Act.put,nms]
 refine wpLo_c (some 11) rfl rfl (by rfl) (PX.mk0 none 0 0 0) (fun y=>.slice y.A n.bufs.length y.c) (fun y W=>gL yc.hi y n.bufs W) (fun y W W' h h'=>h.stp h') (fun W hF hC=>?_) (fun yb=>?_)
 ·refine LoOp.enter (by go_simp;first|done|exact⟨rfl,rfl⟩|rfl) ?_
  refine(impl_copyLists n.bufs a4 c4 W (HR.out W hC).bufs (HR.out W hC).h4 (Lib.hid (HR.out W hC).h9)).mono ?_
  rintro e W1 ⟨hg1,Ba⟩
  obtain⟨A,c,vs,rfl,hO,hP⟩:=hg1
  exact⟨_,rfl,⟨A,c,none,0,vs,W.heap.size,W1.heap.size⟩,rfl,⟨Ba⟩,hF.2.2.2.1,Ba.size,Nat.le_refl _,hO,own_within hO,hP,fun i hi=>within_R (hP.row i hi)⟩
 try simp only[Act.put,nms]
 refine wpLo_l (some 12) rfl rfl (by rfl) (fun W=>(by go_simp;first|done|rfl)) (fun g9 hg9=>?_)
 try simp only[Act.put,nms]
 refine wpLo_q (some 13) rfl rfl (by rfl) (fun W hC=>?_) ?_
 ·obtain⟨x0,x1,x2,x3,x4,x5,x6,x7,x8,x9,x10⟩:=HX.out W hC
  go_simp
  try rfl
 try simp only[Act.put,nms]
 refine wpLo_q (some 14) rfl rfl (by rfl) (fun W hC=>?_) ?_
 ·obtain⟨x0,x1,x2,x3,x4,x5,x6,x7,x8,x9,x10⟩:=HX.out W hC
  go_simp
  try rfl
 try simp only[Act.put,nms]
 refine wpLo_c (some 15) rfl rfl (by rfl) (PX.mk0 none 0 0 0) (fun y=>.slice y.A n.owners.length y.c) (fun y W=>gA (((w.alloc (.cells #[.int .i64 n.mesh.g.w,.int .i64 n.mesh.g.h,.slice a1 n.mesh.br.length c1,.slice a2 n.pa.length c2,.slice a3 n.pb.length c3,.slice a4 n.bufs.length c4,.slice a5 n.owners.length c5,.slice a6 n.turns.length c6,.slice a7 n.srcs.length c7,.slice a8 n.arrs.length c8,.int .i64 n.time] 42)).alloc (.cells #[.int .i64 0,.int .i64 0,.slice none 0 0,.slice none 0 0,.slice none 0 0,.slice none 0 0,.slice none 0 0,.slice none 0 0,.slice none 0 0,.slice none 0 0,.int .i64 0] 42))).heap.size yb.hi y n.owners W) (fun y W W' h h'=>h.stp h') (fun W hF hC=>?_) (fun yo=>?_)
 ·have hL:=hF.2
  have hgW:g9<W.heap.size:=blk_lt hL
  obtain⟨v1,W1,hr1,hR1,Ba,ha1⟩:=run_copy (Kd.int .i64) 26 26 3 (.int .i64 0) 8 Tryz.underlying26 info_int rfl (by decide) (by omega) KM_int K1_int g9 n.owners a5 n.owners.length c5 hL hg9 (HR.out W hC).owners hC.h.size (by have:=(HR.out W hC).h5;omega)
  obtain⟨A,c,rfl⟩:=Kd.R_slice hR1
  refine LoOp.val (v:=.slice A n.owners.length c) (w1:=W1) (run_append_op rfl rfl rfl hr1) ?_
  exact⟨PX.mk0 A c W.heap.size W1.heap.size,rfl,⟨Ba⟩,gA.of hF.1.2.2.2.1 hR1 rfl Ba ha1 hgW hL⟩
 try simp only[Act.put,nms]
 refine wpLo_l (some 16) rfl rfl (by rfl) (fun W=>(by go_simp;first|done|rfl)) (fun g13 hg13=>?_)
 try simp only[Act.put,nms]
 refine wpLo_q (some 17) rfl rfl (by rfl) (fun W hC=>?_) ?_
 ·obtain⟨x0,x1,x2,x3,x4,x5,x6,x7,x8,x9,x10⟩:=HX.out W hC
  go_simp
  try rfl
 try simp only[Act.put,nms]
 refine wpLo_q (some 18) rfl rfl (by rfl) (fun W hC=>?_) ?_
 ·obtain⟨x0,x1,x2,x3,x4,x5,x6,x7,x8,x9,x10⟩:=HX.out W hC
  go_simp
  try rfl
 try simp only[Act.put,nms]
 refine wpLo_c (some 19) rfl rfl (by rfl) (PX.mk0 none 0 0 0) (fun y=>.slice y.A n.turns.length y.c) (fun y W=>gA (((w.alloc (.cells #[.int .i64 n.mesh.g.w,.int .i64 n.mesh.g.h,.slice a1 n.mesh.br.length c1,.slice a2 n.pa.length c2,.slice a3 n.pb.length c3,.slice a4 n.bufs.length c4,.slice a5 n.owners.length c5,.slice a6 n.turns.length c6,.slice a7 n.srcs.length c7,.slice a8 n.arrs.length c8,.int .i64 n.time] 42)).alloc (.cells #[.int .i64 0,.int .i64 0,.slice none 0 0,.slice none 0 0,.slice none 0 0,.slice none 0 0,.slice none 0 0,.slice none 0 0,.slice none 0 0,.slice none 0 0,.int .i64 0] 42))).heap.size yo.hi y n.turns W) (fun y W W' h h'=>h.stp h') (fun W hF hC=>?_) (fun yt=>?_)
 ·have hL:=hF.2
  have hgW:g13<W.heap.size:=blk_lt hL
  obtain⟨v1,W1,hr1,hR1,Ba,ha1⟩:=run_copy (Kd.int .i64) 26 26 3 (.int .i64 0) 8 Tryz.underlying26 info_int rfl (by decide) (by omega) KM_int K1_int g13 n.turns a6 n.turns.length c6 hL hg13 (HR.out W hC).turns hC.h.size (by have:=(HR.out W hC).h6;omega)
  obtain⟨A,c,rfl⟩:=Kd.R_slice hR1
  refine LoOp.val (v:=.slice A n.turns.length c) (w1:=W1) (run_append_op rfl rfl rfl hr1) ?_
  exact⟨PX.mk0 A c W.heap.size W1.heap.size,rfl,⟨Ba⟩,gA.of hF.1.2.2.2.1 hR1 rfl Ba ha1 hgW hL⟩
 try simp only[Act.put,nms]
 refine wpLo_q (some 20) rfl rfl (by rfl) (fun W hC=>?_) ?_
 ·obtain⟨x0,x1,x2,x3,x4,x5,x6,x7,x8,x9,x10⟩:=HX.out W hC
  go_simp
  try rfl
 try simp only[Act.put,nms]
 refine wpLo_q (some 21) rfl rfl (by rfl) (fun W hC=>?_) ?_
 ·obtain⟨x0,x1,x2,x3,x4,x5,x6,x7,x8,x9,x10⟩:=HX.out W hC
  go_simp
  try rfl
 try simp only[Act.put,nms]
 refine wpLo_c (some 22) rfl rfl (by rfl) (PX.mk0 none 0 0 0) (fun y=>.slice y.A n.srcs.length y.c) (fun y W=>gL yt.hi y n.srcs W) (fun y W W' h h'=>h.stp h') (fun W hF hC=>?_) (fun ys=>?_)
 ·refine LoOp.enter (by go_simp;first|done|exact⟨rfl,rfl⟩|rfl) ?_
  refine(impl_copyLists n.srcs a7 c7 W (HR.out W hC).srcs (HR.out W hC).h7 (Lib.hid (HR.out W hC).h10)).mono ?_
  rintro e W1 ⟨hg1,Ba⟩
  obtain⟨A,c,vs,rfl,hO,hP⟩:=hg1
  exact⟨_,rfl,⟨A,c,none,0,vs,W.heap.size,W1.heap.size⟩,rfl,⟨Ba⟩,hF.2.2.2.1,Ba.size,Nat.le_refl _,hO,own_within hO,hP,fun i hi=>within_R (hP.row i hi)⟩
 try simp only[Act.put,nms]
 refine wpLo_q (some 23) rfl rfl (by rfl) (fun W hC=>?_) ?_
 ·obtain⟨x0,x1,x2,x3,x4,x5,x6,x7,x8,x9,x10⟩:=HX.out W hC
  go_simp
  try rfl
 try simp only[Act.put,nms]
 refine wpLo_q (some 24) rfl rfl (by rfl) (fun W hC=>?_) ?_
 ·obtain⟨x0,x1,x2,x3,x4,x5,x6,x7,x8,x9,x10⟩:=HX.out W hC
  go_simp
  try rfl
 try simp only[Act.put,nms]
 refine wpLo_c (some 25) rfl rfl (by rfl) (PX.mk0 none 0 0 0) (fun y=>.slice y.A n.arrs.length y.c) (fun y W=>gL ys.hi y n.arrs W) (fun y W W' h h'=>h.stp h') (fun W hF hC=>?_) (fun ya=>?_)
 ·refine LoOp.enter (by go_simp;first|done|exact⟨rfl,rfl⟩|rfl) ?_
  refine(impl_copyLists n.arrs a8 c8 W (HR.out W hC).arrs (HR.out W hC).h8 (Lib.hid (HR.out W hC).h11)).mono ?_
  rintro e W1 ⟨hg1,Ba⟩
  obtain⟨A,c,vs,rfl,hO,hP⟩:=hg1
  exact⟨_,rfl,⟨A,c,none,0,vs,W.heap.size,W1.heap.size⟩,rfl,⟨Ba⟩,hF.2.2.2.1,Ba.size,Nat.le_refl _,hO,own_within hO,hP,fun i hi=>within_R (hP.row i hi)⟩
 try simp only[Act.put,nms]
 refine wpLo_q (some 26) rfl rfl (by rfl) (fun W hC=>?_) ?_
 ·obtain⟨x0,x1,x2,x3,x4,x5,x6,x7,x8,x9,x10⟩:=HX.out W hC
  go_simp
  try rfl
 try simp only[Act.put,nms]
 refine wpLo_q (some 27) rfl rfl (by rfl) (fun W hC=>?_) ?_
 ·obtain⟨x0,x1,x2,x3,x4,x5,x6,x7,x8,x9,x10⟩:=HX.out W hC
  go_simp
  try rfl
 try simp only[Act.put,nms]
 refine wpLo_c (some 28) rfl rfl (by rfl) () (fun _=>.agg (netCells n ⟨ym.A,yc.A,yc.A2,yb.A,yo.A,yt.A,ys.A,ya.A,ym.c,yc.c,yc.c2,yb.c,yo.c,yt.c,ys.c,ya.c⟩)) (fun _ _=>True) (fun _ _ _ _ _=>trivial) (fun W hF hC=>LoOp.val (w1:=W) (by go_simp;try rfl) ⟨(),rfl,stp_refl _,trivial⟩) (fun _=>?_)
 try simp only[Act.put,nms]
 refine wpLo_z ?_
 intro W hF hC
 obtain⟨⟨⟨⟨⟨⟨⟨⟨⟨⟨_,hm⟩,hc⟩,hb⟩,_⟩,ho⟩,_⟩,ht⟩,hs⟩,ha⟩,_⟩:=hF
 have hN:=Lib.hid (NX.parts hm hc hb ho ht hs ha)
 clear hm hc hb ho ht hs ha
 have Ba:=hC.h
 have Bb:W.heap[w.heap.size+1]?=some (.cells #[.int .i64 0,.int .i64 0,.slice none 0 0,.slice none 0 0,.slice none 0 0,.slice none 0 0,.slice none 0 0,.slice none 0 0,.slice none 0 0,.slice none 0 0,.int .i64 0] 42 (0,0)):=by
  have h1:=blk_new (w.alloc (.cells #[.int .i64 n.mesh.g.w,.int .i64 n.mesh.g.h,.slice a1 n.mesh.br.length c1,.slice a2 n.pa.length c2,.slice a3 n.pb.length c3,.slice a4 n.bufs.length c4,.slice a5 n.owners.length c5,.slice a6 n.turns.length c6,.slice a7 n.srcs.length c7,.slice a8 n.arrs.length c8,.int .i64 n.time] 42)) (.cells #[.int .i64 0,.int .i64 0,.slice none 0 0,.slice none 0 0,.slice none 0 0,.slice none 0 0,.slice none 0 0,.slice none 0 0,.slice none 0 0,.slice none 0 0,.int .i64 0] 42)
  rw[World.size_alloc] at h1
  exact blk_below h1 hC.h
 have y0:W.cell? ⟨w.heap.size+1,0,none⟩=some (.int .i64 0):=blk_cell Bb 0
 have f0:W.frozen? ⟨w.heap.size+1,0,none⟩=false:=blk_frozen Bb 0
 have y1:W.cell? ⟨w.heap.size+1,1,none⟩=some (.int .i64 0):=blk_cell Bb 1
 have f1:W.frozen? ⟨w.heap.size+1,1,none⟩=false:=blk_frozen Bb 1
 have y2:W.cell? ⟨w.heap.size+1,2,none⟩=some (.slice none 0 0):=blk_cell Bb 2
 have f2:W.frozen? ⟨w.heap.size+1,2,none⟩=false:=blk_frozen Bb 2
 have y3:W.cell? ⟨w.heap.size+1,3,none⟩=some (.slice none 0 0):=blk_cell Bb 3
 have f3:W.frozen? ⟨w.heap.size+1,3,none⟩=false:=blk_frozen Bb 3
 have y4:W.cell? ⟨w.heap.size+1,4,none⟩=some (.slice none 0 0):=blk_cell Bb 4
 have f4:W.frozen? ⟨w.heap.size+1,4,none⟩=false:=blk_frozen Bb 4
 have y5:W.cell? ⟨w.heap.size+1,5,none⟩=some (.slice none 0 0):=blk_cell Bb 5
 have f5:W.frozen? ⟨w.heap.size+1,5,none⟩=false:=blk_frozen Bb 5
 have y6:W.cell? ⟨w.heap.size+1,6,none⟩=some (.slice none 0 0):=blk_cell Bb 6
 have f6:W.frozen? ⟨w.heap.size+1,6,none⟩=false:=blk_frozen Bb 6
 have y7:W.cell? ⟨w.heap.size+1,7,none⟩=some (.slice none 0 0):=blk_cell Bb 7
 have f7:W.frozen? ⟨w.heap.size+1,7,none⟩=false:=blk_frozen Bb 7
 have y8:W.cell? ⟨w.heap.size+1,8,none⟩=some (.slice none 0 0):=blk_cell Bb 8
 have f8:W.frozen? ⟨w.heap.size+1,8,none⟩=false:=blk_frozen Bb 8
 have y9:W.cell? ⟨w.heap.size+1,9,none⟩=some (.slice none 0 0):=blk_cell Bb 9
 have f9:W.frozen? ⟨w.heap.size+1,9,none⟩=false:=blk_frozen Bb 9
 have y10:W.cell? ⟨w.heap.size+1,10,none⟩=some (.int .i64 0):=blk_cell Bb 10
 have f10:W.frozen? ⟨w.heap.size+1,10,none⟩=false:=blk_frozen Bb 10
 clear Bb
 have Za:=bw_size Ba
 simp only[szs] at Za
 refine⟨_,rfl,by rfl,?_⟩
 dsimp only [netCells]
 go_simp
 go_wp2
 exact bodyPost_ret (v:=.agg (netCells n ⟨ym.A,yc.A,yc.A2,yb.A,yo.A,yt.A,ys.A,ya.A,ym.c,yc.c,yc.c2,yb.c,yo.c,yt.c,ys.c,ya.c⟩)) (by simp[results,Tryz.results54,go_sem,netCells, *]) rfl ⟨⟨_,yb.vs,ys.vs,ya.vs,rfl,(by refine NX.lower (lo:=(((w.alloc (.cells #[.int .i64 n.mesh.g.w,.int .i64 n.mesh.g.h,.slice a1 n.mesh.br.length c1,.slice a2 n.pa.length c2,.slice a3 n.pb.length c3,.slice a4 n.bufs.length c4,.slice a5 n.owners.length c5,.slice a6 n.turns.length c6,.slice a7 n.srcs.length c7,.slice a8 n.arrs.length c8,.int .i64 n.time] 42)).alloc (.cells #[.int .i64 0,.int .i64 0,.slice none 0 0,.slice none 0 0,.slice none 0 0,.slice none 0 0,.slice none 0 0,.slice none 0 0,.slice none 0 0,.slice none 0 0,.int .i64 0] 42))).heap.size) ?_ (by simp only[szs];omega);(repeat (refine NX.off ?_ (by simp only[szs];omega) _ _));exact hN.out)⟩,bel⟩
set_option maxHeartbeats 8000000 in
set_option maxRecDepth 100000 in
theorem spec_l15Copy (n:Net) (q:NA) (w:World) (hr:NetR 153 w n q):Calls Tryz.prog 167 #[.agg (netCells n q)] w fun e w'=>GotNX w w' n e∧Below w.heap.size w w':=by
 have R:=Lib.hid hr
 clear hr
 obtain⟨a1,a2,a3,a4,a5,a6,a7,a8,c1,c2,c3,c4,c5,c6,c7,c8⟩:=q
 dsimp only [netCells]
 have hX:∀ W,Stp ((w.alloc (.cells #[.int .i64 n.mesh.g.w,.int .i64 n.mesh.g.h,.slice a1 n.mesh.br.length c1,.slice a2 n.pa.length c2,.slice a3 n.pb.length c3,.slice a4 n.bufs.length c4,.slice a5 n.owners.length c5,.slice a6 n.turns.length c6,.slice a7 n.srcs.length c7,.slice a8 n.arrs.length c8,.int .i64 n.time] 42)).alloc (.cells #[.int .i64 0,.int .i64 0,.slice none 0 0,.slice none 0 0,.slice none 0 0,.slice none 0 0,.slice none 0 0,.slice none 0 0,.slice none 0 0,.slice none 0 0,.int .i64 0] 42)) W→W.cell? ⟨w.heap.size,0,none⟩=some (.int .i64 n.mesh.g.w)∧W.cell? ⟨w.heap.size,1,none⟩=some (.int .i64 n.mesh.g.h)∧W.cell? ⟨w.heap.size,2,none⟩=some (.slice a1 n.mesh.br.length c1)∧W.cell? ⟨w.heap.size,3,none⟩=some (.slice a2 n.pa.length c2)∧W.cell? ⟨w.heap.size,4,none⟩=some (.slice a3 n.pb.length c3)∧W.cell? ⟨w.heap.size,5,none⟩=some (.slice a4 n.bufs.length c4)∧W.cell? ⟨w.heap.size,6,none⟩=some (.slice a5 n.owners.length c5)∧W.cell? ⟨w.heap.size,7,none⟩=some (.slice a6 n.turns.length c6)∧W.cell? ⟨w.heap.size,8,none⟩=some (.slice a7 n.srcs.length c7)∧W.cell? ⟨w.heap.size,9,none⟩=some (.slice a8 n.arrs.length c8)∧W.cell? ⟨w.heap.size,10,none⟩=some (.int .i64 n.time):=by
  intro W hW
  have hb:=((Box.new w w.heap.size #[.int .i64 n.mesh.g.w,.int .i64 n.mesh.g.h,.slice a1 n.mesh.br.length c1,.slice a2 n.pa.length c2,.slice a3 n.pb.length c3,.slice a4 n.bufs.length c4,.slice a5 n.owners.length c5,.slice a6 n.turns.length c6,.slice a7 n.srcs.length c7,.slice a8 n.arrs.length c8,.int .i64 n.time] 42 rfl).alloc (.cells #[.int .i64 0,.int .i64 0,.slice none 0 0,.slice none 0 0,.slice none 0 0,.slice none 0 0,.slice none 0 0,.slice none 0 0,.slice none 0 0,.slice none 0 0,.int .i64 0] 42)).below hW.h
  exact⟨hb.get 0,hb.get 1,hb.get 2,hb.get 3,hb.get 4,hb.get 5,hb.get 6,hb.get 7,hb.get 8,hb.get 9,hb.get 10⟩
 have hRW:∀ W,Stp ((w.alloc (.cells #[.int .i64 n.mesh.g.w,.int .i64 n.mesh.g.h,.slice a1 n.mesh.br.length c1,.slice a2 n.pa.length c2,.slice a3 n.pb.length c3,.slice a4 n.bufs.length c4,.slice a5 n.owners.length c5,.slice a6 n.turns.length c6,.slice a7 n.srcs.length c7,.slice a8 n.arrs.length c8,.int .i64 n.time] 42)).alloc (.cells #[.int .i64 0,.int .i64 0,.slice none 0 0,.slice none 0 0,.slice none 0 0,.slice none 0 0,.slice none 0 0,.slice none 0 0,.slice none 0 0,.slice none 0 0,.int .i64 0] 42)) W→NetR 153 W n ⟨a1,a2,a3,a4,a5,a6,a7,a8,c1,c2,c3,c4,c5,c6,c7,c8⟩:=fun W hW=>R.out.below (bw_then (bw_alloc _ (bw_alloc _ (bw_refl w))) hW.h)
 have HX:=Lib.hid hX
 have HR:=Lib.hid hRW
 clear hX hRW
 go_enter Tryz.func167,Tryz.ntmps167
 go_wp2_with fail
 refine wp_region_lo (((w.alloc (.cells #[.int .i64 n.mesh.g.w,.int .i64 n.mesh.g.h,.slice a1 n.mesh.br.length c1,.slice a2 n.pa.length c2,.slice a3 n.pb.length c3,.slice a4 n.bufs.length c4,.slice a5 n.owners.length c5,.slice a6 n.turns.length c6,.slice a7 n.srcs.length c7,.slice a8 n.arrs.length c8,.int .i64 n.time] 42)).alloc (.cells #[.int .i64 0,.int .i64 0,.slice none 0 0,.slice none 0 0,.slice none 0 0,.slice none 0 0,.slice none 0 0,.slice none 0 0,.slice none 0 0,.slice none 0 0,.int .i64 0] 42))).heap.size (Stp (((w.alloc (.cells #[.int .i64 n.mesh.g.w,.int .i64 n.mesh.g.h,.slice a1 n.mesh.br.length c1,.slice a2 n.pa.length c2,.slice a3 n.pb.length c3,.slice a4 n.bufs.length c4,.slice a5 n.owners.length c5,.slice a6 n.turns.length c6,.slice a7 n.srcs.length c7,.slice a8 n.arrs.length c8,.int .i64 n.time] 42)).alloc (.cells #[.int .i64 0,.int .i64 0,.slice none 0 0,.slice none 0 0,.slice none 0 0,.slice none 0 0,.slice none 0 0,.slice none 0 0,.slice none 0 0,.slice none 0 0,.int .i64 0] 42)))) (fun _=>3) (fun i=>[.pointer (some ⟨w.heap.size,0,none⟩),.agg #[.int .i64 n.mesh.g.w,.int .i64 n.mesh.g.h,.slice a1 n.mesh.br.length c1],.int .i64 0,.pointer (some ⟨w.heap.size,3,none⟩),.agg #[.slice a2 n.pa.length c2,.slice a3 n.pb.length c3],.int .i64 0,.pointer (some ⟨w.heap.size,5,none⟩),.slice a4 n.bufs.length c4,.int .i64 0,.int .i64 0,.pointer (some ⟨w.heap.size,6,none⟩),.slice a5 n.owners.length c5,.int .i64 0,.int .i64 0,.pointer (some ⟨w.heap.size,7,none⟩),.slice a6 n.turns.length c6,.int .i64 0,.pointer (some ⟨w.heap.size,8,none⟩),.slice a7 n.srcs.length c7,.int .i64 0,.pointer (some ⟨w.heap.size,9,none⟩),.slice a8 n.arrs.length c8,.int .i64 0,.pointer (some ⟨w.heap.size,10,none⟩),.int .i64 n.time,.int .i64 0].getD i undef) 26 [(0,.quiet),(1,.quiet),(2,.chain),(3,.quiet),(4,.quiet),(5,.chain),(6,.quiet),(7,.quiet),(8,.chain),(9,.lit),(10,.quiet),(11,.quiet),(12,.chain),(13,.lit),(14,.quiet),(15,.quiet),(16,.chain),(17,.quiet),(18,.quiet),(19,.chain),(20,.quiet),(21,.quiet),(22,.chain),(23,.quiet),(24,.quiet),(25,.chain)] (by kernel_rfl) (by kernel_rfl) (by kernel_rfl) (by kernel_rfl) (by kernel_rfl) (by kernel_rfl) (by kernel_rfl) (by kernel_rfl) (fun W h=>h.h.size) (fun W W' h h'=>stp_then h h') (stp_drew (stp_refl _)) ?_
 refine wpLo_q (some 3) rfl rfl (by rfl) (fun W hC=>?_) ?_
 ·obtain⟨x0,x1,x2,x3,x4,x5,x6,x7,x8,x9,x10⟩:=HX.out W hC
  go_simp
  try rfl
 try simp only[Act.put,nms]
 refine wpLo_q (some 4) rfl rfl (by rfl) (fun W hC=>?_) ?_
 ·obtain⟨x0,x1,x2,x3,x4,x5,x6,x7,x8,x9,x10⟩:=HX.out W hC
  go_simp
  try rfl
 try simp only[Act.put,nms]
 refine wpLo_c (some 5) rfl rfl (by rfl) (PX.mk0 none 0 0 0) (fun y=>.agg #[.int .i64 n.mesh.g.w,.int .i64 n.mesh.g.h,.slice y.A n.mesh.br.length y.c]) (fun y W=>gI (((w.alloc (.cells #[.int .i64 n.mesh.g.w,.int .i64 n.mesh.g.h,.slice a1 n.mesh.br.length c1,.slice a2 n.pa.length c2,.slice a3 n.pb.length c3,.slice a4 n.bufs.length c4,.slice a5 n.owners.length c5,.slice a6 n.turns.length c6,.slice a7 n.srcs.length c7,.slice a8 n.arrs.length c8,.int .i64 n.time] 42)).alloc (.cells #[.int .i64 0,.int .i64 0,.slice none 0 0,.slice none 0 0,.slice none 0 0,.slice none 0 0,.slice none 0 0,.slice none 0 0,.slice none 0 0,.slice none 0 0,.int .i64 0] 42))).heap.size y n.mesh.br W) (fun y W W' h h'=>h.stp h') (fun W hF hC=>?_) (fun ym=>?_)
 ·refine LoOp.enter (by go_simp;first|done|exact⟨rfl,rfl⟩|rfl) ?_
  refine(spec_l15Mesh n.mesh a1 c1 W (HR.out W hC).br (HR.out W hC).h1).mono ?_
  rintro e W1 ⟨hg1,Ba⟩
  obtain⟨v,rfl,hO⟩:=hg1
  obtain⟨A,c,rfl⟩:=Kd.R_slice hO
  exact⟨_,rfl,PX.mk0 A c W.heap.size W1.heap.size,rfl,⟨Ba⟩,hC.h.size,Ba.size,Nat.le_refl _,RU.of hO (Nat.le_refl _) (Nat.le_refl _)⟩
 try simp only[Act.put,nms]
 refine wpLo_q (some 6) rfl rfl (by rfl) (fun W hC=>?_) ?_
 ·obtain⟨x0,x1,x2,x3,x4,x5,x6,x7,x8,x9,x10⟩:=HX.out W hC
  go_simp
  try rfl
 try simp only[Act.put,nms]
 refine wpLo_q (some 7) rfl rfl (by rfl) (fun W hC=>?_) ?_
 ·obtain⟨x0,x1,x2,x3,x4,x5,x6,x7,x8,x9,x10⟩:=HX.out W hC
  go_simp
  try rfl
 try simp only[Act.put,nms]
 refine wpLo_c (some 8) rfl rfl (by rfl) (PX.mk0 none 0 0 0) (fun y=>.agg #[.slice y.A n.pa.length y.c,.slice y.A2 n.pb.length y.c2]) (fun y W=>gC ym.hi y n.pa n.pb W) (fun y W W' h h'=>h.stp h') (fun W hF hC=>?_) (fun yc=>?_)
 ·refine LoOp.enter (by go_simp;first|done|exact⟨rfl,rfl⟩|rfl) ?_
  refine(spec_l15Classes n.pa n.pb a2 a3 c2 c3 W (HR.out W hC).pa (HR.out W hC).h2 (HR.out W hC).pb (HR.out W hC).h3).mono ?_
  rintro e W1 ⟨hg1,Ba⟩
  obtain⟨va,vb,rfl,hO,hP,hap⟩:=hg1
  obtain⟨A,c,rfl⟩:=Kd.R_slice hO
  obtain⟨A2,c2,rfl⟩:=Kd.R_slice hP
  exact⟨_,rfl,⟨A,c,A2,c2,[],W.heap.size,W1.heap.size⟩,rfl,⟨Ba⟩,hF.2.2.2.1,Ba.size,Nat.le_refl _,RU.of hO (Nat.le_refl _) (Nat.le_refl _),RU.of hP (Nat.le_refl _) (Nat.le_refl _),hap⟩
 try simp only[Act.put,nms]
 refine wpLo_q (some 9) rfl rfl (by rfl) (fun W hC=>?_) ?_
 ·obtain⟨x0,x1,x2,x3,x4,x5,x6,x7,x8,x9,x10⟩:=HX.out W hC
  go_simp
  try rfl
 try simp only[Act.put,nms]
 refine wpLo_q (some 10) rfl rfl (by rfl) (fun W hC=>?_) ?_
 ·obtain⟨x0,x1,x2,x3,x4,x5,x6,x7,x8,x9,x10⟩:=HX.out W hC
  go_simp
  try rfl
 try simp only[Act.put,nms]
 refine wpLo_c (some 11) rfl rfl (by rfl) (PX.mk0 none 0 0 0) (fun y=>.slice y.A n.bufs.length y.c) (fun y W=>gL yc.hi y n.bufs W) (fun y W W' h h'=>h.stp h') (fun W hF hC=>?_) (fun yb=>?_)
 ·refine LoOp.enter (by go_simp;first|done|exact⟨rfl,rfl⟩|rfl) ?_
  refine(spec_l15Lists n.bufs a4 c4 W (HR.out W hC).bufs (HR.out W hC).h4 (Lib.hid (HR.out W hC).h9)).mono ?_
  rintro e W1 ⟨hg1,Ba⟩
  obtain⟨A,c,vs,rfl,hO,hP⟩:=hg1
  exact⟨_,rfl,⟨A,c,none,0,vs,W.heap.size,W1.heap.size⟩,rfl,⟨Ba⟩,hF.2.2.2.1,Ba.size,Nat.le_refl _,hO,own_within hO,hP,fun i hi=>within_R (hP.row i hi)⟩
 try simp only[Act.put,nms]
 refine wpLo_l (some 12) rfl rfl (by rfl) (fun W=>(by go_simp;first|done|rfl)) (fun g9 hg9=>?_)
 try simp only[Act.put,nms]
 refine wpLo_q (some 13) rfl rfl (by rfl) (fun W hC=>?_) ?_
 ·obtain⟨x0,x1,x2,x3,x4,x5,x6,x7,x8,x9,x10⟩:=HX.out W hC
  go_simp
  try rfl
 try simp only[Act.put,nms]
 refine wpLo_q (some 14) rfl rfl (by rfl) (fun W hC=>?_) ?_
 ·obtain⟨x0,x1,x2,x3,x4,x5,x6,x7,x8,x9,x10⟩:=HX.out W hC
  go_simp
  try rfl
 try simp only[Act.put,nms]
 refine wpLo_c (some 15) rfl rfl (by rfl) (PX.mk0 none 0 0 0) (fun y=>.slice y.A n.owners.length y.c) (fun y W=>gA (((w.alloc (.cells #[.int .i64 n.mesh.g.w,.int .i64 n.mesh.g.h,.slice a1 n.mesh.br.length c1,.slice a2 n.pa.length c2,.slice a3 n.pb.length c3,.slice a4 n.bufs.length c4,.slice a5 n.owners.length c5,.slice a6 n.turns.length c6,.slice a7 n.srcs.length c7,.slice a8 n.arrs.length c8,.int .i64 n.time] 42)).alloc (.cells #[.int .i64 0,.int .i64 0,.slice none 0 0,.slice none 0 0,.slice none 0 0,.slice none 0 0,.slice none 0 0,.slice none 0 0,.slice none 0 0,.slice none 0 0,.int .i64 0] 42))).heap.size yb.hi y n.owners W) (fun y W W' h h'=>h.stp h') (fun W hF hC=>?_) (fun yo=>?_)
 ·have hL:=hF.2
  have hgW:g9<W.heap.size:=blk_lt hL
  obtain⟨v1,W1,hr1,hR1,Ba,ha1⟩:=run_copy (Kd.int .i64) 26 26 3 (.int .i64 0) 8 Tryz.underlying26 info_int rfl (by decide) (by omega) KM_int K1_int g9 n.owners a5 n.owners.length c5 hL hg9 (HR.out W hC).owners hC.h.size (by have:=(HR.out W hC).h5;omega)
  obtain⟨A,c,rfl⟩:=Kd.R_slice hR1
  refine LoOp.val (v:=.slice A n.owners.length c) (w1:=W1) (run_append_op rfl rfl rfl hr1) ?_
  exact⟨PX.mk0 A c W.heap.size W1.heap.size,rfl,⟨Ba⟩,gA.of hF.1.2.2.2.1 hR1 rfl Ba ha1 hgW hL⟩
 try simp only[Act.put,nms]
 refine wpLo_l (some 16) rfl rfl (by rfl) (fun W=>(by go_simp;first|done|rfl)) (fun g13 hg13=>?_)
 try simp only[Act.put,nms]
 refine wpLo_q (some 17) rfl rfl (by rfl) (fun W hC=>?_) ?_
 ·obtain⟨x0,x1,x2,x3,x4,x5,x6,x7,x8,x9,x10⟩:=HX.out W hC
  go_simp
  try rfl
 try simp only[Act.put,nms]
 refine wpLo_q (some 18) rfl rfl (by rfl) (fun W hC=>?_) ?_
 ·obtain⟨x0,x1,x2,x3,x4,x5,x6,x7,x8,x9,x10⟩:=HX.out W hC
  go_simp
  try rfl
 try simp only[Act.put,nms]
 refine wpLo_c (some 19) rfl rfl (by rfl) (PX.mk0 none 0 0 0) (fun y=>.slice y.A n.turns.length y.c) (fun y W=>gA (((w.alloc (.cells #[.int .i64 n.mesh.g.w,.int .i64 n.mesh.g.h,.slice a1 n.mesh.br.length c1,.slice a2 n.pa.length c2,.slice a3 n.pb.length c3,.slice a4 n.bufs.length c4,.slice a5 n.owners.length c5,.slice a6 n.turns.length c6,.slice a7 n.srcs.length c7,.slice a8 n.arrs.length c8,.int .i64 n.time] 42)).alloc (.cells #[.int .i64 0,.int .i64 0,.slice none 0 0,.slice none 0 0,.slice none 0 0,.slice none 0 0,.slice none 0 0,.slice none 0 0,.slice none 0 0,.slice none 0 0,.int .i64 0] 42))).heap.size yo.hi y n.turns W) (fun y W W' h h'=>h.stp h') (fun W hF hC=>?_) (fun yt=>?_)
 ·have hL:=hF.2
  have hgW:g13<W.heap.size:=blk_lt hL
  obtain⟨v1,W1,hr1,hR1,Ba,ha1⟩:=run_copy (Kd.int .i64) 26 26 3 (.int .i64 0) 8 Tryz.underlying26 info_int rfl (by decide) (by omega) KM_int K1_int g13 n.turns a6 n.turns.length c6 hL hg13 (HR.out W hC).turns hC.h.size (by have:=(HR.out W hC).h6;omega)
  obtain⟨A,c,rfl⟩:=Kd.R_slice hR1
  refine LoOp.val (v:=.slice A n.turns.length c) (w1:=W1) (run_append_op rfl rfl rfl hr1) ?_
  exact⟨PX.mk0 A c W.heap.size W1.heap.size,rfl,⟨Ba⟩,gA.of hF.1.2.2.2.1 hR1 rfl Ba ha1 hgW hL⟩
 try simp only[Act.put,nms]
 refine wpLo_q (some 20) rfl rfl (by rfl) (fun W hC=>?_) ?_
 ·obtain⟨x0,x1,x2,x3,x4,x5,x6,x7,x8,x9,x10⟩:=HX.out W hC
  go_simp
  try rfl
 try simp only[Act.put,nms]
 refine wpLo_q (some 21) rfl rfl (by rfl) (fun W hC=>?_) ?_
 ·obtain⟨x0,x1,x2,x3,x4,x5,x6,x7,x8,x9,x10⟩:=HX.out W hC
  go_simp
  try rfl
 try simp only[Act.put,nms]
 refine wpLo_c (some 22) rfl rfl (by rfl) (PX.mk0 none 0 0 0) (fun y=>.slice y.A n.srcs.length y.c) (fun y W=>gL yt.hi y n.srcs W) (fun y W W' h h'=>h.stp h') (fun W hF hC=>?_) (fun ys=>?_)
 ·refine LoOp.enter (by go_simp;first|done|exact⟨rfl,rfl⟩|rfl) ?_
  refine(spec_l15Lists n.srcs a7 c7 W (HR.out W hC).srcs (HR.out W hC).h7 (Lib.hid (HR.out W hC).h10)).mono ?_
  rintro e W1 ⟨hg1,Ba⟩
  obtain⟨A,c,vs,rfl,hO,hP⟩:=hg1
  exact⟨_,rfl,⟨A,c,none,0,vs,W.heap.size,W1.heap.size⟩,rfl,⟨Ba⟩,hF.2.2.2.1,Ba.size,Nat.le_refl _,hO,own_within hO,hP,fun i hi=>within_R (hP.row i hi)⟩
 try simp only[Act.put,nms]
 refine wpLo_q (some 23) rfl rfl (by rfl) (fun W hC=>?_) ?_
 ·obtain⟨x0,x1,x2,x3,x4,x5,x6,x7,x8,x9,x10⟩:=HX.out W hC
  go_simp
  try rfl
 try simp only[Act.put,nms]
 refine wpLo_q (some 24) rfl rfl (by rfl) (fun W hC=>?_) ?_
 ·obtain⟨x0,x1,x2,x3,x4,x5,x6,x7,x8,x9,x10⟩:=HX.out W hC
  go_simp
  try rfl
 try simp only[Act.put,nms]
 refine wpLo_c (some 25) rfl rfl (by rfl) (PX.mk0 none 0 0 0) (fun y=>.slice y.A n.arrs.length y.c) (fun y W=>gL ys.hi y n.arrs W) (fun y W W' h h'=>h.stp h') (fun W hF hC=>?_) (fun ya=>?_)
 ·refine LoOp.enter (by go_simp;first|done|exact⟨rfl,rfl⟩|rfl) ?_
  refine(spec_l15Lists n.arrs a8 c8 W (HR.out W hC).arrs (HR.out W hC).h8 (Lib.hid (HR.out W hC).h11)).mono ?_
  rintro e W1 ⟨hg1,Ba⟩
  obtain⟨A,c,vs,rfl,hO,hP⟩:=hg1
  exact⟨_,rfl,⟨A,c,none,0,vs,W.heap.size,W1.heap.size⟩,rfl,⟨Ba⟩,hF.2.2.2.1,Ba.size,Nat.le_refl _,hO,own_within hO,hP,fun i hi=>within_R (hP.row i hi)⟩
 try simp only[Act.put,nms]
 refine wpLo_q (some 26) rfl rfl (by rfl) (fun W hC=>?_) ?_
 ·obtain⟨x0,x1,x2,x3,x4,x5,x6,x7,x8,x9,x10⟩:=HX.out W hC
  go_simp
  try rfl
 try simp only[Act.put,nms]
 refine wpLo_q (some 27) rfl rfl (by rfl) (fun W hC=>?_) ?_
 ·obtain⟨x0,x1,x2,x3,x4,x5,x6,x7,x8,x9,x10⟩:=HX.out W hC
  go_simp
  try rfl
 try simp only[Act.put,nms]
 refine wpLo_c (some 28) rfl rfl (by rfl) () (fun _=>.agg (netCells n ⟨ym.A,yc.A,yc.A2,yb.A,yo.A,yt.A,ys.A,ya.A,ym.c,yc.c,yc.c2,yb.c,yo.c,yt.c,ys.c,ya.c⟩)) (fun _ _=>True) (fun _ _ _ _ _=>trivial) (fun W hF hC=>LoOp.val (w1:=W) (by go_simp;try rfl) ⟨(),rfl,stp_refl _,trivial⟩) (fun _=>?_)
 try simp only[Act.put,nms]
 refine wpLo_z ?_
 intro W hF hC
 obtain⟨⟨⟨⟨⟨⟨⟨⟨⟨⟨_,hm⟩,hc⟩,hb⟩,_⟩,ho⟩,_⟩,ht⟩,hs⟩,ha⟩,_⟩:=hF
 have hN:=Lib.hid (NX.parts hm hc hb ho ht hs ha)
 clear hm hc hb ho ht hs ha
 have Ba:=hC.h
 have Bb:W.heap[w.heap.size+1]?=some (.cells #[.int .i64 0,.int .i64 0,.slice none 0 0,.slice none 0 0,.slice none 0 0,.slice none 0 0,.slice none 0 0,.slice none 0 0,.slice none 0 0,.slice none 0 0,.int .i64 0] 42 (0,0)):=by
  have h1:=blk_new (w.alloc (.cells #[.int .i64 n.mesh.g.w,.int .i64 n.mesh.g.h,.slice a1 n.mesh.br.length c1,.slice a2 n.pa.length c2,.slice a3 n.pb.length c3,.slice a4 n.bufs.length c4,.slice a5 n.owners.length c5,.slice a6 n.turns.length c6,.slice a7 n.srcs.length c7,.slice a8 n.arrs.length c8,.int .i64 n.time] 42)) (.cells #[.int .i64 0,.int .i64 0,.slice none 0 0,.slice none 0 0,.slice none 0 0,.slice none 0 0,.slice none 0 0,.slice none 0 0,.slice none 0 0,.slice none 0 0,.int .i64 0] 42)
  rw[World.size_alloc] at h1
  exact blk_below h1 hC.h
 have y0:W.cell? ⟨w.heap.size+1,0,none⟩=some (.int .i64 0):=blk_cell Bb 0
 have f0:W.frozen? ⟨w.heap.size+1,0,none⟩=false:=blk_frozen Bb 0
 have y1:W.cell? ⟨w.heap.size+1,1,none⟩=some (.int .i64 0):=blk_cell Bb 1
 have f1:W.frozen? ⟨w.heap.size+1,1,none⟩=false:=blk_frozen Bb 1
 have y2:W.cell? ⟨w.heap.size+1,2,none⟩=some (.slice none 0 0):=blk_cell Bb 2
 have f2:W.frozen? ⟨w.heap.size+1,2,none⟩=false:=blk_frozen Bb 2
 have y3:W.cell? ⟨w.heap.size+1,3,none⟩=some (.slice none 0 0):=blk_cell Bb 3
 have f3:W.frozen? ⟨w.heap.size+1,3,none⟩=false:=blk_frozen Bb 3
 have y4:W.cell? ⟨w.heap.size+1,4,none⟩=some (.slice none 0 0):=blk_cell Bb 4
 have f4:W.frozen? ⟨w.heap.size+1,4,none⟩=false:=blk_frozen Bb 4
 have y5:W.cell? ⟨w.heap.size+1,5,none⟩=some (.slice none 0 0):=blk_cell Bb 5
 have f5:W.frozen? ⟨w.heap.size+1,5,none⟩=false:=blk_frozen Bb 5
 have y6:W.cell? ⟨w.heap.size+1,6,none⟩=some (.slice none 0 0):=blk_cell Bb 6
 have f6:W.frozen? ⟨w.heap.size+1,6,none⟩=false:=blk_frozen Bb 6
 have y7:W.cell? ⟨w.heap.size+1,7,none⟩=some (.slice none 0 0):=blk_cell Bb 7
 have f7:W.frozen? ⟨w.heap.size+1,7,none⟩=false:=blk_frozen Bb 7
 have y8:W.cell? ⟨w.heap.size+1,8,none⟩=some (.slice none 0 0):=blk_cell Bb 8
 have f8:W.frozen? ⟨w.heap.size+1,8,none⟩=false:=blk_frozen Bb 8
 have y9:W.cell? ⟨w.heap.size+1,9,none⟩=some (.slice none 0 0):=blk_cell Bb 9
 have f9:W.frozen? ⟨w.heap.size+1,9,none⟩=false:=blk_frozen Bb 9
 have y10:W.cell? ⟨w.heap.size+1,10,none⟩=some (.int .i64 0):=blk_cell Bb 10
 have f10:W.frozen? ⟨w.heap.size+1,10,none⟩=false:=blk_frozen Bb 10
 clear Bb
 have Za:=bw_size Ba
 simp only[szs] at Za
 refine⟨_,rfl,by rfl,?_⟩
 dsimp only [netCells]
 go_simp
 go_wp2
 exact bodyPost_ret (v:=.agg (netCells n ⟨ym.A,yc.A,yc.A2,yb.A,yo.A,yt.A,ys.A,ya.A,ym.c,yc.c,yc.c2,yb.c,yo.c,yt.c,ys.c,ya.c⟩)) (by simp[results,Tryz.results167,go_sem,netCells, *]) rfl ⟨⟨_,yb.vs,ys.vs,ya.vs,rfl,(by refine NX.lower (lo:=(((w.alloc (.cells #[.int .i64 n.mesh.g.w,.int .i64 n.mesh.g.h,.slice a1 n.mesh.br.length c1,.slice a2 n.pa.length c2,.slice a3 n.pb.length c3,.slice a4 n.bufs.length c4,.slice a5 n.owners.length c5,.slice a6 n.turns.length c6,.slice a7 n.srcs.length c7,.slice a8 n.arrs.length c8,.int .i64 n.time] 42)).alloc (.cells #[.int .i64 0,.int .i64 0,.slice none 0 0,.slice none 0 0,.slice none 0 0,.slice none 0 0,.slice none 0 0,.slice none 0 0,.slice none 0 0,.slice none 0 0,.int .i64 0] 42))).heap.size) ?_ (by simp only[szs];omega);(repeat (refine NX.off ?_ (by simp only[szs];omega) _ _));exact hN.out)⟩,bel⟩
end Go.Proofs.YtodbglncccgdbaaGreat
namespace NoC
def usedAt (us:List Bool) (i:Int):Bool:=us.getD (i / 2).toNat false
def keepU (us:List Bool) (i:Int):Bool:=!usedAt us i
def dist (x t:Int):Int:=(x - t+10) % 10
def better (turn best x:Int):Int:=if best<0 then x else if dist x turn<dist best turn then x else best
def firstTo (l:List Int) (turn:Int) (k:Nat):Int:=(l.take k).foldl (better turn) (-1)
def firstFrom (l:List Int) (turn:Int):Int:=firstTo l turn l.length
def smallL (l:List Int):Prop:=∀ k:Nat,k<l.length→0≤ri l k∧ri l k≤9
theorem take_nextI (l:List Int) (k:Nat) (hk:k<l.length):l.take (k+1)=l.take k++[ri l k]:=by
  rw[ri_get l k hk,List.take_succ_eq_append_getElem hk]
theorem firstTo_succ (l:List Int) (turn:Int) (k:Nat) (hk:k<l.length):firstTo l turn (k+1)=better turn (firstTo l turn k) (ri l k):=by
  unfold firstTo
  rw[take_nextI l k hk,List.foldl_append]
  rfl
theorem firstTo_range {l:List Int} {turn:Int} (h:smallL l):∀ k,k≤l.length→-1≤firstTo l turn k∧firstTo l turn k≤9:=by
  intro k
  induction k with
  | zero=>intro _;simp[firstTo]
  | succ k ih=>
    intro hk
    have h1:=ih (by omega)
    have h2:=h k (by omega)
    rw[firstTo_succ l turn k (by omega)]
    unfold better
    split
    · omega
    · split <;> omega
theorem better_1 {turn best x:Int} (h:best<0):better turn best x=x:=by rw[better,if_pos h]
theorem better_2 {turn best x:Int} (h:¬ best<0) (h2:(x - turn+10) % 10<(best - turn+10) % 10):better turn best x=x:=by rw[better,if_neg h,if_pos (by unfold dist;exact h2)]
theorem better_3 {turn best x:Int} (h:¬ best<0) (h2:¬ (x - turn+10) % 10<(best - turn+10) % 10):better turn best x=best:=by rw[better,if_neg h,if_neg (by unfold dist;exact h2)]
def leftOf (n:Net) (a p:Int) (us:List Bool):List Int:=(requestsN n a p).filter (keepU us)
def pick (n:Net) (a p:Int) (us:List Bool):Int:=firstFrom (leftOf n a p us) (ri n.turns (5*a+p))
def gst (n:Net) (a:Int):Nat→List Bool × List Grant
  | 0=>([false,false,false,false,false],[])
  | p+1=>if 0≤pick n a p (gst n a p).1 then ((gst n a p).1.set (pick n a p (gst n a p).1 / 2).toNat true,(gst n a p).2++[⟨a,p,pick n a p (gst n a p).1⟩]) else gst n a p
def grantsN (n:Net) (a:Int):List Grant:=(gst n a 5).2
theorem gst_yes {n:Net} {a:Int} {p:Nat} {k:Int} (h:pick n a p (gst n a p).1=k) (h0:0≤k):gst n a (p+1)=((gst n a p).1.set (k / 2).toNat true,(gst n a p).2++[⟨a,p,k⟩]):=by
  rw[gst,h,if_pos h0]
theorem gst_no {n:Net} {a:Int} {p:Nat} {k:Int} (h:pick n a p (gst n a p).1=k) (h0:k<0):gst n a (p+1)=gst n a p:=by
  rw[gst,h,if_neg (by omega)]
theorem gst_us (n:Net) (a:Int):∀ p,(gst n a p).1.length=5:=by
  intro p
  induction p with
  | zero=>rfl
  | succ p ih=>
    rw[gst]
    split
    · simp[ih]
    · exact ih
theorem gst_len (n:Net) (a:Int):∀ p,(gst n a p).2.length≤p:=by
  intro p
  induction p with
  | zero=>simp[gst]
  | succ p ih=>
    rw[gst]
    split
    · simp;omega
    · omega
theorem smallL_mem {l:List Int} (h:∀ x∈l,0≤x∧x≤9):smallL l:=by
  intro k hk
  rw[ri_get l k hk]
  exact h _ (List.getElem_mem hk)
theorem requests_small (n:Net) (a p:Int):∀ x∈requestsN n a p,0≤x∧x≤9:=by
  intro x hx
  unfold requestsN requestsTo at hx
  obtain⟨i,hi,rfl⟩:=List.mem_map.1 hx
  have:=List.mem_range.1 (List.mem_filter.1 hi).1
  omega
theorem left_small (n:Net) (a p:Int) (us:List Bool):∀ x∈leftOf n a p us,0≤x∧x≤9:=fun x hx=>requests_small n a p x (List.mem_filter.1 hx).1
theorem left_len (n:Net) (a p:Int) (us:List Bool):(leftOf n a p us).length≤10:=Nat.le_trans (List.length_filter_le _ _) (requestsTo_len n a p 10)
theorem pick_range (n:Net) (a p:Int) (us:List Bool):-1≤pick n a p us∧pick n a p us≤9:=firstTo_range (smallL_mem (left_small n a p us)) _ (Nat.le_refl _)
theorem turn_range {n:Net} {a:Int} (ok:netOk n=true) (nd:isNode n.mesh.g a=true) (p:Nat) (hp:p<5):0≤5*a+(p:Int)∧5*a+(p:Int)<(n.turns.length:Int)∧0≤ri n.turns (5*a+p)∧ri n.turns (5*a+p)≤9:=by
  obtain⟨_,h1,h2,h3,h4,h5,hb,hs,ho,ht,_⟩:=netOk_parts ok
  have:=isNode_iff.1 nd
  have k0:0≤5*a+(p:Int):=by omega
  have k1:5*a+(p:Int)<(n.turns.length:Int):=by omega
  have:=ht (5*a+(p:Int)).toNat (by omega)
  rw[Int.toNat_of_nonneg k0,inside_iff] at this
  exact⟨k0,k1,this.1,this.2⟩
def keptTo (us:List Bool) (l:List Int) (k:Nat):List Int:=(l.take k).filter (keepU us)
theorem keptTo_yes {us:List Bool} {l:List Int} (k:Nat) (hk:k<l.length) (h:usedAt us (ri l k)=false):keptTo us l (k+1)=keptTo us l k++[ri l k]:=by
  unfold keptTo
  rw[take_nextI l k hk,List.filter_append]
  simp[keepU,h]
theorem keptTo_no {us:List Bool} {l:List Int} (k:Nat) (hk:k<l.length) (h:usedAt us (ri l k)=true):keptTo us l (k+1)=keptTo us l k:=by
  unfold keptTo
  rw[take_nextI l k hk,List.filter_append]
  simp[keepU,h]
theorem keptTo_all {us:List Bool} {l:List Int}:∀ k,k≤l.length→(∀ j:Nat,j<k→usedAt us (ri l j)=false)→keptTo us l k=l.take k:=by
  intro k
  induction k with
  | zero=>intro _ _;simp[keptTo]
  | succ k ih=>
    intro hk h
    rw[keptTo_yes k (by omega) (h k (by omega)),ih (by omega) (fun j hj=>h j (by omega)),take_nextI l k (by omega)]
theorem keptTo_len (us:List Bool) (l:List Int) (k:Nat):(keptTo us l k).length≤k:=Nat.le_trans (List.length_filter_le _ _) (by rw[List.length_take];omega)
def freeTo (n:Net) (a p:Int) (us:List Bool) (k:Nat):List Int:=(requestsTo n a p k).filter (keepU us)
theorem freeTo_yes {n:Net} {a p:Int} {us:List Bool} {k:Nat} (h1:usedAt us k=false) (h2:reqI n a k p=true):freeTo n a p us (k+1)=freeTo n a p us k++[(k:Int)]:=by
  unfold freeTo
  rw[requestsTo_yes h2,List.filter_append]
  simp[keepU,h1]
theorem freeTo_no1 {n:Net} {a p:Int} {us:List Bool} {k:Nat} (h1:usedAt us k=true):freeTo n a p us (k+1)=freeTo n a p us k:=by
  unfold freeTo
  cases h2:reqI n a k p
  · rw[requestsTo_no h2]
  · rw[requestsTo_yes h2,List.filter_append]
    simp[keepU,h1]
theorem freeTo_no2 {n:Net} {a p:Int} {us:List Bool} {k:Nat} (h2:reqI n a k p=false):freeTo n a p us (k+1)=freeTo n a p us k:=by
  unfold freeTo
  rw[requestsTo_no h2]
theorem freeTo_len (n:Net) (a p:Int) (us:List Bool) (k:Nat):(freeTo n a p us k).length≤k:=Nat.le_trans (List.length_filter_le _ _) (requestsTo_len n a p k)
def allTo (n:Net) (k:Nat):List Grant:=joinI k (fun a=>grantsN n a)
def allGrants (n:Net):List Grant:=allTo n (nodeCount n.mesh.g).toNat
theorem allTo_len (n:Net):∀ k,(allTo n k).length≤5*k:=by
  intro k
  induction k with
  | zero=>simp[allTo,joinI]
  | succ k ih=>
    unfold allTo at ih ⊢
    rw[joinI_succ,List.length_append]
    have h:(grantsN n (k:Int)).length≤5:=gst_len n k 5
    omega
theorem allTo_succ (n:Net) (k:Nat):allTo n (k+1)=allTo n k++grantsN n k:=joinI_succ k _
def enters (n:Net) (a:Nat):Bool:=decide (0<(rl n.srcs a).length) && decide ((rl n.bufs (10*(a:Int)+8+(rf (rl n.srcs a) 0).cls)).length<3)
def enterTo (n:Net) (k:Nat):List Int:=((List.range k).filter (enters n)).map (fun (i:Nat)=>(i:Int))
def enteringN (n:Net):List Int:=enterTo n n.srcs.length
theorem enterTo_yes {n:Net} {k:Nat} (h:enters n k=true):enterTo n (k+1)=enterTo n k++[(k:Int)]:=by simp[enterTo,List.range_succ,List.filter_append,h]
theorem enterTo_no {n:Net} {k:Nat} (h:enters n k=false):enterTo n (k+1)=enterTo n k:=by simp[enterTo,List.range_succ,List.filter_append,h]
theorem enterTo_len (n:Net) (k:Nat):(enterTo n k).length≤k:=by
  unfold enterTo
  rw[List.length_map]
  exact Nat.le_trans (List.length_filter_le _ _) (by simp)
theorem srcs_len {n:Net} (ok:netOk n=true):n.srcs.length≤16∧(n.srcs.length:Int)=nodeCount n.mesh.g:=by
  obtain⟨_,h1,h2,h3,h4,h5,_⟩:=netOk_parts ok
  have:=count_le n.mesh.g
  omega
theorem src_buf {n:Net} (ok:netOk n=true) (a:Nat) (ha:a<n.srcs.length):isNode n.mesh.g a=true∧((a:Int)≤15)∧(rl n.srcs a).length≤60∧(0<(rl n.srcs a).length→0≤(rf (rl n.srcs a) 0).cls∧(rf (rl n.srcs a) 0).cls≤1∧10*(a:Int)+8+(rf (rl n.srcs a) 0).cls<(n.bufs.length:Int)):=by
  obtain⟨_,h1,h2,h3,h4,h5,hb,hs,_⟩:=netOk_parts ok
  have hc:=count_le n.mesh.g
  have hn:isNode n.mesh.g a=true:=isNode_iff.2 ⟨by omega,by omega⟩
  have h:=hs a ha
  simp only[srcOk,Bool.and_eq_true,decide_eq_true_eq] at h
  refine⟨hn,by omega,h.1,fun h0=>?_⟩
  have hf:inside (rf (rl n.srcs a) 0).cls 0 1=true:=(areFl_get h.2 0 h0).2
  rw[inside_iff] at hf
  omega
def gIdx (g:Grant):Int:=10*g.node+g.input
def popB (bs:List (List Flit)) (g:Grant):List (List Flit):=bs.set (gIdx g).toNat ((rl bs (gIdx g)).drop 1)
def popL (bs:List (List Flit)) (gs:List Grant):List (List Flit):=gs.foldl popB bs
def mvF (n:Net) (g:Grant):Flit:=rf (rl n.bufs (gIdx g)) 0
def gAt (g:Grant):Int:=10*g.node+2*g.port+g.input % 2
def gTurn (g:Grant):Int:=5*g.node+g.port
def gOwn (n:Net) (g:Grant):Int:=if (mvF n g).tail=true then -1 else g.input / 2
def gTo (n:Net) (g:Grant):Int:=behindI n g.node g.port (g.input % 2)
def pushG (n:Net) (x:Net) (g:Grant):Net:=
  if g.port=4 then { x with arrs:=x.arrs.set g.node.toNat (rl x.arrs g.node++[mvF n g]),owners:=x.owners.set (gAt g).toNat (gOwn n g),turns:=x.turns.set (gTurn g).toNat ((g.input+1) % 10) }
  else { x with bufs:=x.bufs.set (gTo n g).toNat (rl x.bufs (gTo n g)++[mvF n g]),owners:=x.owners.set (gAt g).toNat (gOwn n g),turns:=x.turns.set (gTurn g).toNat ((g.input+1) % 10) }
def popN (x:Net) (g:Grant):Net:={ x with bufs:=popB x.bufs g }
def pushL (n x:Net) (gs:List Grant):Net:=gs.foldl (pushG n) x
def eTo (n:Net) (k:Int):Int:=10*k+8+(rf (rl n.srcs k) 0).cls
def enterB (n x:Net) (k:Int):Net:={ x with bufs:=x.bufs.set (eTo n k).toNat (rl x.bufs (eTo n k)++[rf (rl n.srcs k) 0]),srcs:=x.srcs.set k.toNat ((rl x.srcs k).drop 1) }
def enterL (n x:Net) (ks:List Int):Net:=ks.foldl (enterB n) x
def afterPop (n:Net):Net:={ n with bufs:=popL n.bufs (allGrants n) }
def afterPush (n:Net):Net:=pushL n (afterPop n) (allGrants n)
def stepN (n:Net):Net:={ enterL n (afterPush n) (enteringN n) with time:=n.time+1 }
def specG (n:Net) (x:Net) (g:Grant):Net:=pushG n (popN x g) g
def specL (n x:Net) (gs:List Grant):Net:=gs.foldl (specG n) x
structure GsOk (n:Net) (gs:List Grant):Prop where
  nodup:(gs.map gIdx).Nodup
  range:∀ g∈gs,0≤gIdx g∧gIdx g<(n.bufs.length:Int)
  full:∀ g∈gs,rl n.bufs (gIdx g)≠[]
theorem rl_setI {l:List (List Flit)} {k:Int} {v:List Flit} (h0:0≤k) (hk:k<(l.length:Int)) (j:Int) (hj:0≤j):rl (l.set k.toNat v) j=if j=k then v else rl l j:=by
  by_cases e:j=k
  · subst e
    have:j.toNat<l.length:=by omega
    simp[rl,List.getD_eq_getElem?_getD,this]
  · have:¬ k.toNat=j.toNat:=by omega
    simp[rl,List.getD_eq_getElem?_getD,e,this]
theorem popB_len (bs:List (List Flit)) (g:Grant):(popB bs g).length=bs.length:=by simp[popB]
theorem popL_len (gs:List Grant):∀ bs:List (List Flit),(popL bs gs).length=bs.length:=by
  induction gs with
  | nil=>intro bs;rfl
  | cons g gs ih=>intro bs;show (popL (popB bs g) gs).length=_;rw[ih,popB_len]
theorem popL_snoc (bs:List (List Flit)) (gs:List Grant) (g:Grant):popL bs (gs++[g])=popB (popL bs gs) g:=by simp[popL]
theorem popL_other (gs:List Grant):∀ (bs:List (List Flit)) (i:Int),0≤i→(∀ g∈gs,0≤gIdx g∧gIdx g<(bs.length:Int))→(∀ g∈gs,gIdx g≠i)→rl (popL bs gs) i=rl bs i:=by
  induction gs with
  | nil=>intro bs i _ _ _;rfl
  | cons g gs ih=>
    intro bs i hi hr hne
    show rl (popL (popB bs g) gs) i=_
    have hg:=hr g (by simp)
    rw[ih (popB bs g) i hi (fun x hx=>by rw[popB_len];exact hr x (by simp[hx])) (fun x hx=>hne x (by simp[hx]))]
    unfold popB
    rw[rl_setI hg.1 hg.2 i hi,if_neg (fun e=>hne g (by simp) e.symm)]
def addB (bs:List (List Flit)) (t:Int) (f:Flit):List (List Flit):=bs.set t.toNat (rl bs t++[f])
theorem addB_len (bs:List (List Flit)) (t:Int) (f:Flit):(addB bs t f).length=bs.length:=by simp[addB]
theorem ext_rl {a b:List (List Flit)} (hl:a.length=b.length) (h:∀ j:Int,0≤j→j<(a.length:Int)→rl a j=rl b j):a=b:=by
  apply List.ext_getElem hl
  intro j h1 h2
  have:=h (j:Int) (by omega) (by omega)
  simpa [rl,List.getD_eq_getElem?_getD,h1,h2] using this
theorem pop_add {bs:List (List Flit)} {t:Int} {f:Flit} {g:Grant} (t0:0≤t) (t1:t<(bs.length:Int)) (g0:0≤gIdx g) (g1:gIdx g<(bs.length:Int)) (hne:rl bs (gIdx g)≠[]):popB (addB bs t f) g=addB (popB bs g) t f:=by
  refine ext_rl (by simp[popB,addB]) (fun j j0 j1=>?_)
  have ha:gIdx g<((addB bs t f).length:Int):=by rw[addB_len];exact g1
  have hb:t<((popB bs g).length:Int):=by rw[popB_len];exact t1
  conv=>lhs;unfold popB
  conv=>rhs;unfold addB
  rw[rl_setI g0 ha j j0,rl_setI t0 hb j j0]
  conv=>lhs;unfold addB
  conv=>rhs;unfold popB
  rw[rl_setI t0 t1 _ g0,rl_setI t0 t1 _ j0,rl_setI g0 g1 _ t0,rl_setI g0 g1 _ j0]
  by_cases e1:j=gIdx g
  · by_cases e2:j=t
    · subst e2
      rw[if_pos e1,if_pos rfl,if_pos e1.symm,if_pos e1,←e1]
      rw[←e1] at hne
      cases h:rl bs j with
      | nil=>exact absurd h hne
      | cons x xs=>simp
    · rw[if_pos e1,if_neg e2,if_neg (by omega),if_pos e1]
  · by_cases e2:j=t
    · subst e2
      rw[if_neg e1,if_pos rfl,if_pos rfl,if_neg e1]
    · rw[if_neg e1,if_neg e2,if_neg e2,if_neg e1]
theorem popL_add (gs:List Grant):∀ {bs:List (List Flit)} {t:Int} {f:Flit},0≤t→t<(bs.length:Int)→(gs.map gIdx).Nodup→(∀ g∈gs,0≤gIdx g∧gIdx g<(bs.length:Int)∧rl bs (gIdx g)≠[])→popL (addB bs t f) gs=addB (popL bs gs) t f:=by
  induction gs with
  | nil=>intro bs t f _ _ _ _;rfl
  | cons g gs ih=>
    intro bs t f t0 t1 hn hg
    show popL (popB (addB bs t f) g) gs=addB (popL (popB bs g) gs) t f
    obtain⟨g0,g1,g2⟩:=hg g (by simp)
    rw[pop_add t0 t1 g0 g1 g2]
    simp only[List.map_cons,List.nodup_cons] at hn
    refine ih t0 (by rw[popB_len];exact t1) hn.2 (fun x hx=>?_)
    obtain⟨x0,x1,x2⟩:=hg x (by simp[hx])
    refine⟨x0,by rw[popB_len];exact x1,?_⟩
    unfold popB
    rw[rl_setI g0 g1 _ x0,if_neg (fun e=>hn.1 (by rw[←e];exact List.mem_map_of_mem hx))]
    exact x2
theorem pushG_bufs (n x:Net) (g:Grant):(pushG n x g).bufs=if g.port=4 then x.bufs else addB x.bufs (gTo n g) (mvF n g):=by unfold pushG addB;split <;> rfl
theorem pushG_len (n x:Net) (g:Grant):(pushG n x g).bufs.length=x.bufs.length:=by rw[pushG_bufs];split;rfl;exact addB_len _ _ _
def GtOk (n:Net) (gs:List Grant):Prop:=∀ g∈gs,¬ g.port=4→0≤gTo n g∧gTo n g<(n.bufs.length:Int)
def popX (x:Net) (gs:List Grant):Net:={ x with bufs:=popL x.bufs gs }
theorem popX_push {n x:Net} {g:Grant} {gs:List Grant} (hl:x.bufs.length=n.bufs.length) (ht:¬ g.port=4→0≤gTo n g∧gTo n g<(n.bufs.length:Int)) (hn:(gs.map gIdx).Nodup) (hg:∀ y∈gs,0≤gIdx y∧gIdx y<(x.bufs.length:Int)∧rl x.bufs (gIdx y)≠[]):popX (pushG n x g) gs=pushG n (popX x gs) g:=by
  unfold popX pushG
  by_cases h4:g.port=4
  · rw[if_pos h4,if_pos h4]
  · rw[if_neg h4,if_neg h4]
    obtain⟨t0,t1⟩:=ht h4
    have:=popL_add gs (bs:=x.bufs) (t:=gTo n g) (f:=mvF n g) t0 (by omega) hn hg
    simp only[addB] at this
    simp only[this]
theorem spec_impl {n:Net}:∀ (gs:List Grant) (x:Net),x.bufs.length=n.bufs.length→(gs.map gIdx).Nodup→(∀ g∈gs,0≤gIdx g∧gIdx g<(x.bufs.length:Int)∧rl x.bufs (gIdx g)≠[])→GtOk n gs→specL n x gs=pushL n (popX x gs) gs:=by
  intro gs
  induction gs with
  | nil=>intro x _ _ _ _;rfl
  | cons g gs ih=>
    intro x hl hn hg ht
    show specL n (pushG n (popN x g) g) gs=pushL n (pushG n (popX x (g::gs)) g) gs
    simp only[List.map_cons,List.nodup_cons] at hn
    obtain⟨g0,g1,g2⟩:=hg g (by simp)
    have hpop:∀ y∈gs,0≤gIdx y∧gIdx y<((popN x g).bufs.length:Int)∧rl (popN x g).bufs (gIdx y)≠[]:=by
      intro y hy
      obtain⟨y0,y1,y2⟩:=hg y (by simp[hy])
      refine⟨y0,by show gIdx y<((popB x.bufs g).length:Int);rw[popB_len];exact y1,?_⟩
      show rl (popB x.bufs g) (gIdx y)≠[]
      unfold popB
      rw[rl_setI g0 g1 _ y0,if_neg (fun e=>hn.1 (by rw[←e];exact List.mem_map_of_mem hy))]
      exact y2
    have hlp:(popN x g).bufs.length=n.bufs.length:=by show (popB x.bufs g).length=_;rw[popB_len];exact hl
    rw[ih (pushG n (popN x g) g) (by rw[pushG_len];exact hlp) hn.2 ?_ (fun y hy=>ht y (by simp[hy]))]
    · rw[popX_push hlp (ht g (by simp)) hn.2 hpop]
      rfl
    · intro y hy
      obtain⟨y0,y1,y2⟩:=hpop y hy
      refine⟨y0,by rw[pushG_len];exact y1,?_⟩
      rw[pushG_bufs]
      by_cases h4:g.port=4
      · rw[if_pos h4];exact y2
      · rw[if_neg h4]
        obtain⟨t0,t1⟩:=ht g (by simp) h4
        unfold addB
        rw[rl_setI t0 (by rw[hlp];exact t1) _ y0]
        split
        · simp
        · exact y2
theorem firstTo_mem (l:List Int) (turn:Int):∀ k,k≤l.length→firstTo l turn k=-1∨firstTo l turn k∈l:=by
  intro k
  induction k with
  | zero=>intro _;left;rfl
  | succ k ih=>
    intro hk
    have hx:ri l k∈l:=by rw[ri_get l k (by omega)];exact List.getElem_mem (by omega)
    rw[firstTo_succ l turn k (by omega)]
    unfold better
    split
    · exact .inr hx
    · split
      · exact .inr hx
      · exact ih (by omega)
theorem pick_mem {n:Net} {a p:Int} {us:List Bool} (h:0≤pick n a p us):pick n a p us∈leftOf n a p us:=by
  rcases firstTo_mem (leftOf n a p us) (ri n.turns (5*a+p)) _ (Nat.le_refl _) with e|e
  · exfalso
    have:pick n a p us=-1:=e
    omega
  · exact e
theorem requests_mem {n:Net} {a p x:Int} (h:x∈requestsN n a p):reqI n a x p=true∧0≤x∧x≤9:=by
  refine⟨?_,requests_small n a p x h⟩
  unfold requestsN requestsTo at h
  obtain⟨i,hi,rfl⟩:=List.mem_map.1 h
  exact(List.mem_filter.1 hi).2
theorem pick_spec {n:Net} {a p:Int} {us:List Bool} (h:0≤pick n a p us):requestN n a (pick n a p us) p=true∧0≤pick n a p us∧pick n a p us≤9∧usedAt us (pick n a p us)=false:=by
  have h1:=pick_mem h
  unfold leftOf at h1
  obtain⟨h2,h3⟩:=List.mem_filter.1 h1
  obtain⟨h4,h5,h6⟩:=requests_mem h2
  refine⟨?_,h5,h6,by simpa [keepU] using h3⟩
  unfold reqI at h4
  rw[Bool.and_eq_true] at h4
  exact h4.2
theorem used_set {us:List Bool} (hl:us.length=5) {i k:Int} (i0:0≤i) (i9:i≤9) (k0:0≤k) (k9:k≤9):usedAt (us.set (k / 2).toNat true) i=(decide (i / 2=k / 2) || usedAt us i):=by
  unfold usedAt
  by_cases e:i / 2=k / 2
  · have h:(k / 2).toNat<us.length:=by omega
    rw[e]
    simp[List.getD_eq_getElem?_getD,h]
  · have:¬ (k / 2).toNat=(i / 2).toNat:=by omega
    simp[List.getD_eq_getElem?_getD,e,this]
structure GI (n:Net) (a:Int) (p:Nat) (us:List Bool) (gs:List Grant):Prop where
  mem:∀ g∈gs,g.node=a∧0≤g.port∧g.port<(p:Int)∧0≤g.input∧g.input≤9∧requestN n a g.input g.port=true∧usedAt us g.input=true
  pw:gs.Pairwise (fun g h=>g.port<h.port∧g.input / 2≠h.input / 2)
theorem gst_GI (n:Net) (a:Int):∀ p:Nat,GI n a p (gst n a p).1 (gst n a p).2:=by
  intro p
  induction p with
  | zero=>exact⟨fun g hg=>by simp[gst] at hg,by simp[gst]⟩
  | succ p ih=>
    by_cases h0:0≤pick n a p (gst n a p).1
    · obtain⟨h1,h2,h3,h4⟩:=pick_spec h0
      rw[gst_yes rfl h0]
      obtain⟨k,hk⟩:∃ k,pick n a p (gst n a p).1=k:=⟨_,rfl⟩
      rw[hk] at h0 h1 h2 h3 h4 ⊢
      have hl:=gst_us n a p
      refine⟨fun g hg=>?_,?_⟩
      · rcases List.mem_append.1 hg with hg|hg
        · obtain⟨m1,m2,m3,m4,m5,m6,m7⟩:=ih.mem g hg
          exact⟨m1,m2,by push_cast;omega,m4,m5,m6,by rw[used_set hl m4 m5 h2 h3,m7,Bool.or_true]⟩
        · rw[List.mem_singleton.1 hg]
          exact⟨rfl,by show (0:Int)≤p;omega,by show (p:Int)<((p+1:Nat):Int);omega,h2,h3,h1,by rw[used_set hl h2 h3 h2 h3];simp⟩
      · rw[List.pairwise_append]
        refine⟨ih.pw,by simp,fun g hg h hh=>?_⟩
        rw[List.mem_singleton.1 hh]
        obtain⟨m1,m2,m3,m4,m5,m6,m7⟩:=ih.mem g hg
        refine⟨m3,fun e=>?_⟩
        have:usedAt (gst n a p).1 g.input=usedAt (gst n a p).1 k:=by
          unfold usedAt
          have e2:g.input / 2=k / 2:=e
          rw[e2]
        rw[m7,h4] at this
        cases this
    · rw[gst_no rfl (by omega)]
      exact⟨fun g hg=>by obtain⟨m1,m2,m3,m4⟩:=ih.mem g hg;exact⟨m1,m2,by push_cast;omega,m4⟩,ih.pw⟩
structure GOne (n:Net) (g:Grant):Prop where
  nd:isNode n.mesh.g g.node=true
  p0:0≤g.port
  p4:g.port≤4
  i0:0≤g.input
  i9:g.input≤9
  req:requestN n g.node g.input g.port=true
def GLt (g h:Grant):Prop:=g.node<h.node∨(g.node=h.node∧g.port<h.port∧g.input / 2≠h.input / 2)
theorem allTo_spec (n:Net):∀ k:Nat,(k:Int)≤nodeCount n.mesh.g→(∀ g∈allTo n k,GOne n g∧g.node<(k:Int))∧(allTo n k).Pairwise GLt:=by
  intro k
  induction k with
  | zero=>intro _;simp[allTo,joinI]
  | succ k ih=>
    intro hk
    obtain⟨ih1,ih2⟩:=ih (by omega)
    have hg:=gst_GI n (k:Int) 5
    have hone:∀ g∈grantsN n (k:Int),GOne n g∧g.node=(k:Int):=fun g hm=>by
      obtain⟨m1,m2,m3,m4,m5,m6,m7⟩:=hg.mem g hm
      refine⟨⟨?_,m2,by omega,m4,m5,by rw[m1];exact m6⟩,m1⟩
      rw[m1]
      exact isNode_iff.2 ⟨by omega,by omega⟩
    rw[allTo_succ]
    refine⟨fun g hm=>?_,?_⟩
    · rcases List.mem_append.1 hm with hm|hm
      · obtain⟨h1,h2⟩:=ih1 g hm
        exact⟨h1,by push_cast;omega⟩
      · obtain⟨h1,h2⟩:=hone g hm
        exact⟨h1,by push_cast;omega⟩
    · rw[List.pairwise_append]
      refine⟨ih2,?_,fun g hm h hh=>?_⟩
      · refine(hg.pw).imp_of_mem (fun {x y} hx hy hxy=>?_)
        exact .inr ⟨(hone x hx).2.trans (hone y hy).2.symm,hxy⟩
      · have h1:=(ih1 g hm).2
        have h2:=(hone h hh).2
        exact .inl (by omega)
theorem count_nat (g:Grid):(((nodeCount g).toNat:Nat):Int)=nodeCount g:=by
  have:=count_le g
  omega
theorem grants_one {n:Net} {g:Grant} (h:g∈allGrants n):GOne n g:=((allTo_spec n _ (by rw[count_nat];exact Int.le_refl _)).1 g h).1
theorem grants_pw (n:Net):(allGrants n).Pairwise GLt:=(allTo_spec n _ (by rw[count_nat];exact Int.le_refl _)).2
theorem GOne.at {n:Net} {g:Grant} (h:GOne n g) (ok:netOk n=true):At n g.node g.input:=⟨ok,h.nd,h.i0,h.i9⟩
theorem GOne.wants {n:Net} {g:Grant} (h:GOne n g):wantedN n g.node g.input=g.port∧roomN n g.node g.port (g.input % 2)=true:=by
  have:=h.req
  unfold requestN at this
  rw[Bool.and_eq_true,Bool.and_eq_true,beq_iff_eq] at this
  exact⟨this.1.1,this.1.2⟩
theorem GOne.full {n:Net} {g:Grant} (h:GOne n g):0<(rl n.bufs (gIdx g)).length:=wanted_len (a:=g.node) (i:=g.input) (by rw[h.wants.1];exact h.p0)
theorem GOne.live {n:Net} {g:Grant} (h:GOne n g) (h4:¬ g.port=4):NoC.live n.mesh (4*g.node+g.port)=true∧(rl n.bufs (gTo n g)).length<3:=by
  have h1:=h.wants.2
  unfold roomN at h1
  rw[if_neg h4,Bool.and_eq_true,decide_eq_true_eq] at h1
  exact h1
theorem GOne.to {n:Net} {g:Grant} (h:GOne n g) (ok:netOk n=true) (h4:¬ g.port=4):0≤gTo n g∧gTo n g<(n.bufs.length:Int)∧isNode n.mesh.g (nextNode n.mesh.g g.node g.port)=true∧0≤nextNode n.mesh.g g.node g.port∧0≤opposite g.port∧opposite g.port≤3∧gTo n g=10*nextNode n.mesh.g g.node g.port+2*opposite g.port+g.input % 2:=by
  have h3:g.port≤3:=by have:=h.p4;omega
  obtain⟨b1,b2,b3,b4,b5,b6,b7⟩:=behind_idx ok h.p0 h3 (h.live h4).1 (c:=g.input % 2) (by omega) (by omega)
  exact⟨b6,b7,b1,b2,b4,b5,rfl⟩
theorem grants_GsOk {n:Net} (ok:netOk n=true):GsOk n (allGrants n):=by
  refine⟨?_,fun g hg=>?_,fun g hg=>?_⟩
  · unfold List.Nodup
    rw[List.pairwise_map]
    refine(grants_pw n).imp_of_mem (fun {x y} hx hy hxy=>?_)
    have hx1:=grants_one hx
    have Ya:=grants_one hy
    have:=hx1.i0
    have:=hx1.i9
    have:=Ya.i0
    have:=Ya.i9
    unfold gIdx
    rcases hxy with h|⟨h1,h2,h3⟩
    · omega
    · intro e
      apply h3
      have:x.input=y.input:=by omega
      rw[this]
  · have h:=grants_one hg
    have:=(h.at ok).idx
    exact⟨this.2.2.1,this.2.2.2.1⟩
  · have h:=(grants_one hg).full
    intro e
    rw[e] at h
    simp at h
theorem grants_GtOk {n:Net} (ok:netOk n=true):GtOk n (allGrants n):=fun g hg h4=>by
  have:=(grants_one hg).to ok h4
  exact⟨this.1,this.2.1⟩
theorem specStep {n:Net} (ok:netOk n=true):specL n n (allGrants n)=afterPush n:=by
  have h:=grants_GsOk ok
  exact spec_impl (allGrants n) n rfl h.nodup (fun g hg=>⟨(h.range g hg).1,(h.range g hg).2,h.full g hg⟩) (grants_GtOk ok)
theorem next_inj {g:Grid} {a b p:Int} (p0:0≤p) (p3:p≤3) (ha:isNode g a=true) (hb:isNode g b=true) (h0:0≤nextNode g a p) (e:nextNode g a p=nextNode g b p):a=b:=by
  have hgo:gridOk g=true:=by
    unfold isNode nodeCount at ha
    cases h:gridOk g
    · rw[h] at ha
      simp[inside] at ha
      omega
    · rfl
  have ha':=isNode_iff.1 ha
  have hb':=isNode_iff.1 hb
  unfold nodeCount at ha' hb'
  rw[if_pos hgo] at ha' hb'
  have hg:=hgo
  simp only[gridOk,inside,Bool.and_eq_true,decide_eq_true_eq] at hg
  obtain⟨⟨w1,w4⟩,h1,h4⟩:=hg
  obtain⟨w,h⟩:=g
  dsimp only at w1 w4 h1 h4 ha' hb'
  have hp:p=0∨p=1∨p=2∨p=3:=by omega
  have hw:w=1∨w=2∨w=3∨w=4:=by omega
  have hh:h=1∨h=2∨h=3∨h=4:=by omega
  unfold nextNode at h0 e
  rw[if_pos ha] at h0 e
  rw[if_pos hb] at e
  unfold nodeAt at h0 e
  rw[hgo] at h0 e
  simp only[Bool.true_and,inside,Bool.and_eq_true,decide_eq_true_eq] at h0 e
  rcases hp with rfl|rfl|rfl|rfl <;> simp only[if_pos,if_neg,show ¬ (1:Int)=0 by omega,show ¬ (2:Int)=0 by omega,show ¬ (2:Int)=1 by omega,show ¬ (3:Int)=0 by omega,show ¬ (3:Int)=1 by omega,show ¬ (3:Int)=2 by omega,if_false,if_true,ite_true,ite_false] at h0 e <;> rcases hw with rfl|rfl|rfl|rfl <;> rcases hh with rfl|rfl|rfl|rfl <;> split at h0 <;> split at e <;> omega
theorem gTo_inj {n:Net} (ok:netOk n=true) {g h:Grant} (hg:GOne n g) (hh:GOne n h) (g4:¬ g.port=4) (h4:¬ h.port=4) (e:gTo n g=gTo n h):g.node=h.node∧g.port=h.port:=by
  obtain⟨_,_,_,g1,g2,g3,ge⟩:=hg.to ok g4
  obtain⟨_,_,_,h1,h2,h3,he⟩:=hh.to ok h4
  have gp:g.port≤3:=by have:=hg.p4;omega
  have hp:h.port≤3:=by have:=hh.p4;omega
  have og:=opp_eq hg.p0 gp
  have oh:=opp_eq hh.p0 hp
  have q0:=hg.p0
  have q1:=hh.p0
  have e1:g.port=h.port:=by omega
  have e2:nextNode n.mesh.g g.node g.port=nextNode n.mesh.g h.node h.port:=by omega
  rw[←e1] at e2
  exact⟨next_inj q0 gp hg.nd hh.nd g1 e2,e1⟩
theorem row_grow (l:List (List Flit)) (k:Int) (f:Flit) (t:Nat):(rl (l.set k.toNat (rl l k++[f])) t).length≤(rl l t).length+1:=by
  by_cases e:k.toNat=t
  · by_cases h:t<l.length
    · have e2:rl (l.set k.toNat (rl l k++[f])) t=rl l k++[f]:=by simp[rl,List.getD_eq_getElem?_getD,e,h]
      have e3:rl l k=rl l (t:Int):=by simp[rl,e]
      rw[e2,e3]
      simp
    · have e2:rl (l.set k.toNat (rl l k++[f])) t=[]:=by simp[rl,List.getD_eq_getElem?_getD,h]
      rw[e2]
      simp
  · have e2:rl (l.set k.toNat (rl l k++[f])) t=rl l t:=by simp[rl,List.getD_eq_getElem?_getD,e]
    rw[e2]
    omega
theorem push_rows (n x:Net) (g:Grant) (t:Nat):(rl (pushG n x g).bufs t).length≤(rl x.bufs t).length+1∧(rl (pushG n x g).arrs t).length≤(rl x.arrs t).length+1:=by
  unfold pushG
  split
  · exact⟨Nat.le_succ _,row_grow _ _ _ _⟩
  · exact⟨row_grow _ _ _ _,Nat.le_succ _⟩
theorem pushL_rows (n:Net) (t:Nat):∀ (gs:List Grant) (x:Net),(rl (pushL n x gs).bufs t).length≤(rl x.bufs t).length+gs.length∧(rl (pushL n x gs).arrs t).length≤(rl x.arrs t).length+gs.length:=by
  intro gs
  induction gs with
  | nil=>intro x;exact⟨Nat.le_refl _,Nat.le_refl _⟩
  | cons g gs ih=>
    intro x
    have h1:=ih (pushG n x g)
    have h2:=push_rows n x g t
    show (rl (pushL n (pushG n x g) gs).bufs t).length≤_∧(rl (pushL n (pushG n x g) gs).arrs t).length≤_
    simp only[List.length_cons]
    omega
theorem pop_rows (t:Nat):∀ (gs:List Grant) (bs:List (List Flit)),(rl (popL bs gs) t).length≤(rl bs t).length:=by
  intro gs
  induction gs with
  | nil=>intro bs;exact Nat.le_refl _
  | cons g gs ih=>
    intro bs
    refine Nat.le_trans (ih (popB bs g)) ?_
    unfold popB
    by_cases e:(gIdx g).toNat=t
    · by_cases h:t<bs.length
      · have e2:rl (bs.set (gIdx g).toNat ((rl bs (gIdx g)).drop 1)) t=(rl bs (gIdx g)).drop 1:=by simp[rl,List.getD_eq_getElem?_getD,e,h]
        have e3:rl bs (gIdx g)=rl bs (t:Int):=by simp[rl,e]
        rw[e2,e3,List.length_drop]
        omega
      · have e2:rl (bs.set (gIdx g).toNat ((rl bs (gIdx g)).drop 1)) t=[]:=by simp[rl,List.getD_eq_getElem?_getD,h]
        rw[e2]
        simp
    · have e2:rl (bs.set (gIdx g).toNat ((rl bs (gIdx g)).drop 1)) t=rl bs t:=by simp[rl,List.getD_eq_getElem?_getD,e]
      rw[e2]
      omega
theorem enterTo_spec (n:Net):∀ m:Nat,(∀ x∈enterTo n m,∃ i:Nat,x=(i:Int)∧i<m∧enters n i=true)∧(enterTo n m).Pairwise (·<·):=by
  intro m
  induction m with
  | zero=>simp[enterTo]
  | succ m ih=>
    cases h:enters n m
    · rw[enterTo_no h]
      exact⟨fun x hx=>by obtain⟨i,h1,h2,h3⟩:=ih.1 x hx;exact⟨i,h1,by omega,h3⟩,ih.2⟩
    · rw[enterTo_yes h]
      refine⟨fun x hx=>?_,?_⟩
      · rcases List.mem_append.1 hx with hx|hx
        · obtain⟨i,h1,h2,h3⟩:=ih.1 x hx
          exact⟨i,h1,by omega,h3⟩
        · exact⟨m,List.mem_singleton.1 hx,by omega,h⟩
      · rw[List.pairwise_append]
        refine⟨ih.2,by simp,fun x hx y hy=>?_⟩
        obtain⟨i,h1,h2,h3⟩:=ih.1 x hx
        rw[List.mem_singleton.1 hy,h1]
        omega
theorem enter_at {n:Net} {k:Nat} (h:k<(enteringN n).length):∃ i:Nat,ri (enteringN n) k=(i:Int)∧i<n.srcs.length∧enters n i=true:=by
  have:=(enterTo_spec n n.srcs.length).1 (ri (enteringN n) k) (by rw[ri_get _ k h];exact List.getElem_mem h)
  obtain⟨i,h1,h2,h3⟩:=this
  exact⟨i,h1,h2,h3⟩
theorem enter_new {n:Net} {k:Nat} (h:k<(enteringN n).length):∀ x∈(enteringN n).take k,x≠ri (enteringN n) k∧0≤x:=by
  intro x hx
  have hp:(enteringN n).Pairwise (·<·):=(enterTo_spec n n.srcs.length).2
  have hm:=(enterTo_spec n n.srcs.length).1 x (List.mem_of_mem_take hx)
  obtain⟨j,hj,e⟩:=List.getElem_of_mem hx
  rw[List.length_take] at hj
  rw[List.getElem_take] at e
  rw[ri_get _ k h]
  have h1:=(List.pairwise_iff_getElem.1 hp) j k (by omega) h (by omega)
  obtain⟨i,h3,_,_⟩:=hm
  exact⟨by rw[←e];intro e2;rw[e2] at h1;exact absurd h1 (Int.lt_irrefl _),by omega⟩
theorem enterB_srcs {n x:Net} {a b:Int} (ha:0≤a) (hb:0≤b) (hne:a≠b):rl (enterB n x a).srcs b=rl x.srcs b:=by
  unfold enterB
  have:¬ a.toNat=b.toNat:=by omega
  simp[rl,List.getD_eq_getElem?_getD,this]
theorem enterL_srcs {n:Net} {b:Int} (hb:0≤b):∀ (ks:List Int) (x:Net),(∀ a∈ks,a≠b∧0≤a)→rl (enterL n x ks).srcs b=rl x.srcs b:=by
  intro ks
  induction ks with
  | nil=>intro x _;rfl
  | cons a ks ih=>
    intro x h
    show rl (enterL n (enterB n x a) ks).srcs b=_
    rw[ih _ (fun y hy=>h y (by simp[hy])),enterB_srcs (h a (by simp)).2 hb (h a (by simp)).1]
theorem pushL_srcs {n:Net}:∀ (gs:List Grant) (x:Net),(pushL n x gs).srcs=x.srcs:=by
  intro gs
  induction gs with
  | nil=>intro x;rfl
  | cons g gs ih=>
    intro x
    show (pushL n (pushG n x g) gs).srcs=_
    rw[ih]
    unfold pushG
    split <;> rfl
theorem enterL_next (n x:Net) (k:Nat) (h:k<(enteringN n).length):enterL n x ((enteringN n).take (k+1))=enterB n (enterL n x ((enteringN n).take k)) (ri (enteringN n) k):=by
  rw[take_nextI _ k h]
  simp[enterL]
theorem enterL_rows (n:Net) (t:Nat):∀ (ks:List Int) (x:Net),(rl (enterL n x ks).bufs t).length≤(rl x.bufs t).length+ks.length:=by
  intro ks
  induction ks with
  | nil=>intro x;exact Nat.le_refl _
  | cons a ks ih=>
    intro x
    have h1:=ih (enterB n x a)
    have h2:(rl (enterB n x a).bufs t).length≤(rl x.bufs t).length+1:=row_grow _ _ _ _
    show (rl (enterL n (enterB n x a) ks).bufs t).length≤_
    simp only[List.length_cons]
    omega
theorem enterL_time (n:Net):∀ (ks:List Int) (x:Net),(enterL n x ks).time=x.time∧(enterL n x ks).mesh=x.mesh∧(enterL n x ks).pa=x.pa∧(enterL n x ks).pb=x.pb∧(enterL n x ks).owners=x.owners∧(enterL n x ks).turns=x.turns∧(enterL n x ks).arrs=x.arrs:=by
  intro ks
  induction ks with
  | nil=>intro x;exact⟨rfl,rfl,rfl,rfl,rfl,rfl,rfl⟩
  | cons a ks ih=>intro x;exact ih (enterB n x a)
theorem pushL_same (n:Net):∀ (gs:List Grant) (x:Net),(pushL n x gs).time=x.time∧(pushL n x gs).mesh=x.mesh∧(pushL n x gs).pa=x.pa∧(pushL n x gs).pb=x.pb:=by
  intro gs
  induction gs with
  | nil=>intro x;exact⟨rfl,rfl,rfl,rfl⟩
  | cons g gs ih=>
    intro x
    obtain⟨h1,h2,h3,h4⟩:=ih (pushG n x g)
    have e:(pushG n x g).time=x.time∧(pushG n x g).mesh=x.mesh∧(pushG n x g).pa=x.pa∧(pushG n x g).pb=x.pb:=by unfold pushG;split <;> exact⟨rfl,rfl,rfl,rfl⟩
    exact⟨h1.trans e.1,h2.trans e.2.1,h3.trans e.2.2.1,h4.trans e.2.2.2⟩
end NoC
