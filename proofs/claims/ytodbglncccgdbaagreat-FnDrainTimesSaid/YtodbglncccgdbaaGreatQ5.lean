/- Lemmas for laws of this seat, for all inputs: Tz Scal Mesh Tab. -/
import Derived.Test.YtodbglncccgdbaaGreatQ4
import Derived.Test.YtodbglncccgdbaaGreatQ2
import Derived.Test.YtodbglncccgdbaaGreatProg
import Derived.Test.YtodbglncccgdbaaGreatQ1
set_option linter.unusedVariables false
set_option linter.unusedSimpArgs false
namespace Go.Proofs.YtodbglncccgdbaaGreat
open Go.RowKit Go.Proofs.YtodbglncccgdbaaGreatW.PrintWords
def lastA (ops:Array Oper) (m:Nat):Bool:=(List.range m).all fun j=>(anc ops 4 m).contains j
def Upw (B:Nat) (w w':World):Prop:=w.heap.size≤w'.heap.size∧∀ i,B≤i→i<w.heap.size→w'.heap[i]?=w.heap[i]?
theorem Upw.of {B:Nat} {w w':World} (h:Below w.heap.size w w'):Upw B w w':=⟨h.size,fun i _ hi=>h.block i hi⟩
section
variable (P:Program) (ops:Array Oper) (B:Nat) (lo:Nat→Obj) (lv:Nat→Nat→Value) (C:World→Prop)
def wpTz (Z:Act→(World→Prop)→Prop):List (Nat × LK)→List (Nat × Nat)→Act→(World→Prop)→Prop
  | [],_,a,F=>Z a F
  | (i,.quiet)::rest,iv,a,F=>∃ o v,ops[i]?=some o∧QOk P ops C a o v∧wpTz Z rest iv (a.put o.dst v) F
  | (i,.lit)::rest,iv,a,F=>∃ o,ops[i]?=some o∧Region.wanted o (yielded ops a.tmps)=true∧(∀ w,(execOp a.eval o).run P w=.ok (.value (lv i w.heap.size)) (w.alloc (lo i)))∧∀ g:Nat,wpTz Z rest ((g,g+1)::iv) (a.put o.dst (lv i g)) (fun W=>F W∧B≤g∧W.heap[g]?=some (lo i)∧∀ z∈iv,g<z.1∨z.2≤g)
  | (i,.chain)::rest,iv,a,F=>∃ o,ops[i]?=some o∧Region.wanted o (yielded ops a.tmps)=true∧∃ (ι:Type) (y0:ι) (val:ι→Value) (G:ι→World→Prop) (I:ι→Nat × Nat),(∀ w,F w→C w→LoOp P o a w (fun v w'=>∃ y,v=val y∧C w'∧G y w'∧(hasLit rest=true→Upw B w w'∧w.heap.size≤(I y).1∧(I y).2≤w'.heap.size)))∧(hasLit rest=true→∀ y w w',G y w→Below w.heap.size w w'→G y w')∧∀ y,wpTz Z rest (I y::iv) (a.put o.dst (val y)) (G y)
end
section
variable {P:Program} {ops:Array Oper} {B:Nat} {lo:Nat→Obj} {lv:Nat→Nat→Value} {C:World→Prop} {Z:Act→(World→Prop)→Prop} {iv:List (Nat × Nat)}
theorem wpTz_v {i:Nat} {rest:List (Nat × LK)} {a:Act} {F:World→Prop} {o:Oper} (d:Option Tmp) (v:Value) (ho:ops[i]?=some o) (hd:o.dst=d) (hw:Region.wanted o (yielded ops a.tmps)=true) (hr:∀ w,C w→(execOp a.eval o).run P w=.ok (.value v) w) (h:wpTz P ops B lo lv C Z rest iv (a.put d v) F):wpTz P ops B lo lv C Z ((i,.quiet)::rest) iv a F:=⟨o,v,ho,.inl ⟨hw,hr⟩,hd ▸ h⟩
theorem wpTz_d {i:Nat} {rest:List (Nat × LK)} {a:Act} {F:World→Prop} {o:Oper} (d:Option Tmp) (ho:ops[i]?=some o) (hd:o.dst=d) (hw:Region.wanted o (yielded ops a.tmps)=true) {ι:Type} (y0:ι) (val:ι→Value) (G:ι→World→Prop) (I:ι→Nat × Nat) (hr:∀ w,F w→C w→LoOp P o a w (fun v w'=>∃ y,v=val y∧C w'∧G y w'∧Below w.heap.size w w'∧w.heap.size≤(I y).1∧(I y).2≤w'.heap.size)) (hs:∀ y w w',G y w→Below w.heap.size w w'→G y w') (h:∀ y,wpTz P ops B lo lv C Z rest (I y::iv) (a.put d (val y)) (G y)):wpTz P ops B lo lv C Z ((i,.chain)::rest) iv a F:=
  ⟨o,ho,hw,ι,y0,val,G,I,fun w hF hC=>LoOp_mono (hr w hF hC) (fun v w' ⟨y,h1,h2,h3,h4⟩=>⟨y,h1,h2,h3,fun _=>⟨Upw.of h4.1,h4.2⟩⟩),fun _=>hs,hd ▸ h⟩
theorem wpTz_e {i:Nat} {rest:List (Nat × LK)} {a:Act} {F:World→Prop} {o:Oper} (d:Option Tmp) (ho:ops[i]?=some o) (hd:o.dst=d) (hw:Region.wanted o (yielded ops a.tmps)=true) {ι:Type} (y0:ι) (val:ι→Value) (G:ι→World→Prop) (I:ι→Nat × Nat) (hr:∀ w,F w→C w→LoOp P o a w (fun v w'=>∃ y,v=val y∧C w'∧G y w'∧Upw B w w'∧w.heap.size≤(I y).1∧(I y).2≤w'.heap.size)) (hs:∀ y w w',G y w→Below w.heap.size w w'→G y w') (h:∀ y,wpTz P ops B lo lv C Z rest (I y::iv) (a.put d (val y)) (G y)):wpTz P ops B lo lv C Z ((i,.chain)::rest) iv a F:=
  ⟨o,ho,hw,ι,y0,val,G,I,fun w hF hC=>LoOp_mono (hr w hF hC) (fun v w' ⟨y,h1,h2,h3,h4⟩=>⟨y,h1,h2,h3,fun _=>h4⟩),fun _=>hs,hd ▸ h⟩
theorem wpTz_l {i:Nat} {rest:List (Nat × LK)} {a:Act} {F:World→Prop} {o:Oper} (d:Option Tmp) (ho:ops[i]?=some o) (hd:o.dst=d) (hw:Region.wanted o (yielded ops a.tmps)=true) (hr:∀ w,(execOp a.eval o).run P w=.ok (.value (lv i w.heap.size)) (w.alloc (lo i))) (h:∀ g:Nat,wpTz P ops B lo lv C Z rest ((g,g+1)::iv) (a.put d (lv i g)) (fun W=>F W∧B≤g∧W.heap[g]?=some (lo i)∧∀ z∈iv,g<z.1∨z.2≤g)):wpTz P ops B lo lv C Z ((i,.lit)::rest) iv a F:=⟨o,ho,hw,hr,hd ▸ h⟩
theorem wpTz_z {a:Act} {F:World→Prop} (h:Z a F):wpTz P ops B lo lv C Z [] iv a F:=h
theorem wpTz_perm:∀ (l:List (Nat × LK)) (iv iv':List (Nat × Nat)) (a:Act) (F:World→Prop),(∀ z,z∈iv↔z∈iv')→wpTz P ops B lo lv C Z l iv a F→wpTz P ops B lo lv C Z l iv' a F:=by
  intro l
  induction l with
  | nil=>intro _ _ _ _ _ h;exact h
  | cons x l ih=>
    intro iv iv' a F hm h
    obtain⟨i,k⟩:=x
    have hc:∀ u z,z∈u::iv↔z∈u::iv':=fun u z=>by simp only[List.mem_cons,hm]
    cases k with
    | quiet=>
      obtain⟨o,v,h1,h2,h3⟩:=h
      exact⟨o,v,h1,h2,ih _ _ _ _ hm h3⟩
    | lit=>
      obtain⟨o,h1,h2,h3,h4⟩:=h
      refine⟨o,h1,h2,h3,fun g=>?_⟩
      have e:(fun W:World=>F W∧B≤g∧W.heap[g]?=some (lo i)∧∀ z∈iv',g<z.1∨z.2≤g)=(fun W:World=>F W∧B≤g∧W.heap[g]?=some (lo i)∧∀ z∈iv,g<z.1∨z.2≤g):=by
        funext W
        simp only[hm]
      rw[e]
      exact ih _ _ _ _ (hc _) (h4 g)
    | chain=>
      obtain⟨o,h1,h2,ι,y0,val,G,I,h3,h4,h5⟩:=h
      exact⟨o,h1,h2,ι,y0,val,G,I,h3,h4,fun y=>ih _ _ _ _ (hc _) (h5 y)⟩
theorem mem_swap {α:Type} (a b:α) (l:List α):∀ z,z∈a::b::l↔z∈b::a::l:=fun z=>by
  simp only[List.mem_cons]
  constructor <;> rintro (h|h|h) <;> simp[h]
theorem wpTz_move (hCi:∃ w,C w) (hsel:∀ (j:Nat) (o:Oper) cs b,ops[j]?=some o→o.op≠.select cs b) {b:Nat} {ob:Oper} (hob:ops[b]?=some ob) (l2:List (Nat × LK)) :
    ∀ (l1:List (Nat × LK)) (iv:List (Nat × Nat)) (a:Act) (F:World→Prop),(∀ x∈l1,∀ ox,ops[x.1]?=some ox→ob.apart ops ox=true)→wpTz P ops B lo lv C Z (l1++(b,.quiet)::l2) iv a F→wpTz P ops B lo lv C Z ((b,.quiet)::(l1++l2)) iv a F:=by
  intro l1
  induction l1 with
  | nil=>intro iv a F _ h;exact h
  | cons x l1 ih=>
    intro iv a F hap h
    obtain⟨i,ki⟩:=x
    have hapr:∀ y∈l1,∀ oy,ops[y.1]?=some oy→ob.apart ops oy=true:=fun y hy=>hap y (by simp[hy])
    have core:∀ ox,ops[i]?=some ox→(∀ d,ob.dst=some d→d ∉ ox.looksAt ops)∧(∀ d,ob.dst=some d→ox.dst≠some d)∧(∀ d,ox.dst=some d→d ∉ ob.looksAt ops):=fun ox hox=>Oper.apart_spec (hap (i,ki) (by simp) ox hox)
    cases ki with
    | quiet=>
      obtain⟨ox,v,h1,h2,h4⟩:=h
      obtain⟨c1,c2,c3⟩:=core ox h1
      obtain⟨ob',v',e1,e2,e4⟩:=ih _ _ _ hapr h4
      obtain rfl:=Option.some.inj (hob.symm.trans e1)
      refine⟨_,v',hob,(QOk_put (hsel b _ · · hob) c3).1 e2,ox,v,h1,(QOk_put (hsel i ox · · h1) c1).2 h2,?_⟩
      rw[Act.put_comm a _ _ c2]
      exact e4
    | lit=>
      obtain⟨ox,h1,h2,h3,h4⟩:=h
      obtain⟨c1,c2,c3⟩:=core ox h1
      obtain⟨ob',v',e1,e2,e4⟩:=ih _ _ _ hapr (h4 0)
      obtain rfl:=Option.some.inj (hob.symm.trans e1)
      have e2':=(QOk_put (hsel b _ · · hob) c3).1 e2
      refine⟨_,v',hob,e2',ox,h1,by rw[wanted_put ox a _ _ c1];exact h2,fun w=>by rw[execOp_put (ops:=ops) ox (hsel i ox · · h1) a _ _ c1];exact h3 w,fun g=>?_⟩
      obtain⟨ob'',v'',f1,f2,f4⟩:=ih _ _ _ hapr (h4 g)
      obtain rfl:=Option.some.inj (hob.symm.trans f1)
      obtain rfl:=QOk_one hCi e2' ((QOk_put (hsel b _ · · hob) c3).1 f2)
      rw[Act.put_comm a _ _ c2]
      exact f4
    | chain=>
      obtain⟨ox,h1,h2,ι,y0,val,G,I,h4,h6,h5⟩:=h
      obtain⟨c1,c2,c3⟩:=core ox h1
      obtain⟨ob',v',e1,e2,e4⟩:=ih _ _ _ hapr (h5 y0)
      obtain rfl:=Option.some.inj (hob.symm.trans e1)
      have hm:hasLit (l1.append ((b,LK.quiet)::l2))=hasLit (l1++l2):=hasLit_mid (x:=(b,LK.quiet)) (by simp) l1 l2
      rw[hm] at h4 h6
      have e2':=(QOk_put (hsel b _ · · hob) c3).1 e2
      refine⟨_,v',hob,e2',ox,h1,by rw[wanted_put ox a _ _ c1];exact h2,ι,y0,val,G,I,fun w hF hC=>(LoOp_put (hsel i ox · · h1) _ _ c1).2 (h4 w hF hC),h6,fun y=>?_⟩
      obtain⟨ob'',v'',f1,f2,f4⟩:=ih _ _ _ hapr (h5 y)
      obtain rfl:=Option.some.inj (hob.symm.trans f1)
      obtain rfl:=QOk_one hCi e2' ((QOk_put (hsel b _ · · hob) c3).1 f2)
      rw[Act.put_comm a _ _ c2]
      exact f4
theorem wpTz_movec (hsel:∀ (j:Nat) (o:Oper) cs b,ops[j]?=some o→o.op≠.select cs b) {b:Nat} {ob:Oper} (hob:ops[b]?=some ob) (l2:List (Nat × LK)) :
    ∀ (l1:List (Nat × LK)) (iv:List (Nat × Nat)) (a:Act) (F:World→Prop),(∀ x∈l1,x.2=.quiet)→(∀ x∈l1,∀ ox,ops[x.1]?=some ox→ob.apart ops ox=true)→wpTz P ops B lo lv C Z (l1++(b,.chain)::l2) iv a F→wpTz P ops B lo lv C Z ((b,.chain)::(l1++l2)) iv a F:=by
  intro l1
  induction l1 with
  | nil=>intro iv a F _ _ h;exact h
  | cons x l1 ih=>
    intro iv a F hq hap h
    obtain⟨i,ki⟩:=x
    have:=hq (i,ki) (by simp)
    simp only at this
    subst this
    have hapr:∀ y∈l1,∀ oy,ops[y.1]?=some oy→ob.apart ops oy=true:=fun y hy=>hap y (by simp[hy])
    have hqr:∀ y∈l1,y.2=LK.quiet:=fun y hy=>hq y (by simp[hy])
    obtain⟨ox,v,h1,h2,h4⟩:=h
    obtain⟨c1,c2,c3⟩:=Oper.apart_spec (hap (i,.quiet) (by simp) ox h1)
    obtain⟨ob',e1,e2,ι,y0,val,G,I,e3,e6,e4⟩:=ih _ _ _ hqr hapr h4
    obtain rfl:=Option.some.inj (hob.symm.trans e1)
    have hq3:hasLit ((i,LK.quiet)::l1++l2)=hasLit (l1++l2):=hasLit_mid (x:=(i,LK.quiet)) (by simp) [] (l1++l2)
    rw[←hq3] at e3 e6
    refine⟨_,hob,by rw[←e2];exact(wanted_put _ a ox.dst v c3).symm,ι,y0,val,G,I,fun w hF hC=>(LoOp_put (hsel b _ · · hob) _ _ c3).1 (e3 w hF hC),e6,fun y=>?_⟩
    refine⟨ox,v,h1,(QOk_put (hsel i ox · · h1) c1).2 h2,?_⟩
    rw[Act.put_comm a _ _ c2]
    exact e4 y
theorem wpTz_movel (hsel:∀ (j:Nat) (o:Oper) cs b,ops[j]?=some o→o.op≠.select cs b) {b:Nat} {ob:Oper} (hob:ops[b]?=some ob) (l2:List (Nat × LK)) :
    ∀ (l1:List (Nat × LK)) (iv:List (Nat × Nat)) (a:Act) (F:World→Prop),(∀ x∈l1,∀ ox,ops[x.1]?=some ox→ob.apart ops ox=true)→wpTz P ops B lo lv C Z (l1++(b,.lit)::l2) iv a F→wpTz P ops B lo lv C Z ((b,.lit)::(l1++l2)) iv a F:=by
  intro l1
  induction l1 with
  | nil=>intro iv a F _ h;exact h
  | cons x l1 ih=>
    intro iv a F hap h
    obtain⟨i,ki⟩:=x
    have hapr:∀ y∈l1,∀ oy,ops[y.1]?=some oy→ob.apart ops oy=true:=fun y hy=>hap y (by simp[hy])
    have core:∀ ox,ops[i]?=some ox→(∀ d,ob.dst=some d→d ∉ ox.looksAt ops)∧(∀ d,ob.dst=some d→ox.dst≠some d)∧(∀ d,ox.dst=some d→d ∉ ob.looksAt ops):=fun ox hox=>Oper.apart_spec (hap (i,ki) (by simp) ox hox)
    cases ki with
    | quiet=>
      obtain⟨ox,v,h1,h2,h4⟩:=h
      obtain⟨c1,c2,c3⟩:=core ox h1
      obtain⟨ob',e1,e2,e3,e4⟩:=ih _ _ _ hapr h4
      obtain rfl:=Option.some.inj (hob.symm.trans e1)
      refine⟨_,hob,by rw[←e2];exact(wanted_put _ a ox.dst _ c3).symm,fun w=>by rw[←execOp_put (ops:=ops) _ (hsel b _ · · hob) a ox.dst v c3];exact e3 w,fun g=>?_⟩
      refine⟨ox,v,h1,(QOk_put (hsel i ox · · h1) c1).2 h2,?_⟩
      rw[Act.put_comm a _ _ c2]
      exact e4 g
    | lit=>
      obtain⟨ox,h1,h2,h3,h4⟩:=h
      obtain⟨c1,c2,c3⟩:=core ox h1
      obtain⟨ob',e1,e2,e3,e4⟩:=ih _ _ _ hapr (h4 0)
      obtain rfl:=Option.some.inj (hob.symm.trans e1)
      refine⟨_,hob,by rw[←e2];exact(wanted_put _ a ox.dst _ c3).symm,fun w=>by rw[←execOp_put (ops:=ops) _ (hsel b _ · · hob) a ox.dst (lv i 0) c3];exact e3 w,fun g=>?_⟩
      refine⟨ox,h1,by rw[wanted_put ox a _ _ c1];exact h2,fun w=>by rw[execOp_put (ops:=ops) ox (hsel i ox · · h1) a _ _ c1];exact h3 w,fun g2=>?_⟩
      obtain⟨ob'',f1,f2,f3,f4⟩:=ih _ _ _ hapr (h4 g2)
      obtain rfl:=Option.some.inj (hob.symm.trans f1)
      rw[Act.put_comm a _ _ c2]
      have hfun:(fun W:World=>(F W∧B≤g∧W.heap[g]?=some (lo b)∧∀ z∈iv,g<z.1∨z.2≤g)∧B≤g2∧W.heap[g2]?=some (lo i)∧∀ z∈(g,g+1)::iv,g2<z.1∨z.2≤g2)=(fun W:World=>(F W∧B≤g2∧W.heap[g2]?=some (lo i)∧∀ z∈iv,g2<z.1∨z.2≤g2)∧B≤g∧W.heap[g]?=some (lo b)∧∀ z∈(g2,g2+1)::iv,g<z.1∨z.2≤g):=by
        funext W
        apply propext
        simp only[List.forall_mem_cons]
        constructor <;> (rintro ⟨⟨x1,x2,x3,x4⟩,y1,y2,y3,y4⟩;exact⟨⟨x1,y1,y2,y4⟩,x2,x3,by omega,x4⟩)
      rw[hfun]
      exact wpTz_perm _ _ _ _ _ (mem_swap _ _ _) (f4 g)
    | chain=>
      obtain⟨ox,h1,h2,ι,y0,val,G,I,h4,h6,h5⟩:=h
      obtain⟨c1,c2,c3⟩:=core ox h1
      obtain⟨ob',e1,e2,e3,e4⟩:=ih _ _ _ hapr (h5 y0)
      obtain rfl:=Option.some.inj (hob.symm.trans e1)
      have hl:hasLit (l1++(b,LK.lit)::l2)=true:=by simp[hasLit]
      refine⟨_,hob,by rw[←e2];exact(wanted_put _ a ox.dst _ c3).symm,fun w=>by rw[←execOp_put (ops:=ops) _ (hsel b _ · · hob) a ox.dst (val y0) c3];exact e3 w,fun g=>?_⟩
      have hstay:∀ w w':World,Below w.heap.size w w'→w.heap[g]?=some (lo b)→w'.heap[g]?=some (lo b):=fun w w' hb e=>(hb.block g (Array.getElem?_eq_some_iff.1 e).1).trans e
      refine⟨ox,h1,by rw[wanted_put ox a _ _ c1];exact h2,ι,y0,val,fun y W=>G y W∧B≤g∧W.heap[g]?=some (lo b)∧∀ z∈I y::iv,g<z.1∨z.2≤g,I,fun w hF hC=>(LoOp_put (hsel i ox · · h1) _ _ c1).2 (LoOp_mono (h4 w hF.1 hC) (fun v w' ⟨y,k1,k2,k3,k4⟩=>⟨y,k1,k2,⟨k3,hF.2.1,((k4 hl).1.2 g hF.2.1 (Array.getElem?_eq_some_iff.1 hF.2.2.1).1).trans hF.2.2.1,fun z hz=>by
        rcases List.mem_cons.1 hz with rfl|hz
        · exact .inl (Nat.lt_of_lt_of_le (Array.getElem?_eq_some_iff.1 hF.2.2.1).1 (k4 hl).2.1)
        · exact hF.2.2.2 z hz⟩,fun _=>k4 hl⟩)),fun _ y w w' hG hb=>⟨h6 hl y w w' hG.1 hb,hG.2.1,hstay w w' hb hG.2.2.1,hG.2.2.2⟩,fun y=>?_⟩
      obtain⟨ob'',f1,f2,f3,f4⟩:=ih _ _ _ hapr (h5 y)
      obtain rfl:=Option.some.inj (hob.symm.trans f1)
      rw[Act.put_comm a _ _ c2]
      exact wpTz_perm _ _ _ _ _ (mem_swap _ _ _) (f4 g)
theorem tz_core {Q:Exit→Act→World→Prop} {m:Nat} (L0:List (Nat × LK)) (hend:∀ (fuel:Nat) (l:List (Nat × LK)) (listed:Array Bool) (iv:List (Nat × Nat)) (a:Act) (w:World) (F:World→Prop),l.length≤fuel→LoInv ops m l listed→(∀ x∈l,x∈L0)→m∈Region.ready .any ops listed→F w→C w→wpTz P ops B lo lv C Z l iv a F→wpOp P ops Q m (wpAny P .any ops Q fuel (listed.setIfInBounds m true)) a w)
  (hns:Region.noSelect ops=true) (hsz:ops.size=m+1) (hback:backLo ops=true) :
  ∀ (fuel:Nat) (l:List (Nat × LK)) (listed:Array Bool) (iv:List (Nat × Nat)) (a:Act) (w:World) (F:World→Prop),l.length+1≤fuel→LoInv ops m l listed→(∀ x∈l,x∈L0)→goodTx ops [] l=true→pairsTx ops l=true→(hasLit l=true→(∀ w o,C w→C (w.alloc o))∧(∀ w,C w→B≤w.heap.size))→(hasLit l=true→∀ w w',F w→Below w.heap.size w w'→F w')→(hasLit l=true→∀ z∈iv,z.2≤w.heap.size)→F w→C w→wpTz P ops B lo lv C Z l iv a F→wpAny P .any ops Q fuel listed a w:=by
 intro fuel
 induction fuel with
 | zero=>intro l listed iv a w F h;omega
 | succ fuel ih=>
  intro l listed iv a w F hf hI hsub hg hp hLC hLF hIv hF hC hw
  have hsel:=Region.noSelect_spec hns
  refine⟨fun hr=>?_,fun i hi=>?_⟩
  ·exfalso
   cases l with
   | nil=>
    have hm:m∈Region.ready .any ops listed:=by
     have hms:m<ops.size:=by omega
     refine mem_ready.2 ⟨hI.last,ops[m],Array.getElem?_eq_getElem hms,fun e he hb=>?_⟩
     have hlt:=back_at hback (Array.getElem?_eq_getElem hms) e he hb
     have h1:=(hI.mem e.on hlt)
     rcases Bool.eq_false_or_eq_true (listed.getD e.on false) with h2|h2
     ·exact h2
     ·exfalso
      have:=h1.1 ((getD_two (by rw[hI.size];omega)).2 (by simp[h2]))
      simp at this
    rw[hr] at hm
    cases hm
   | cons x l=>
    obtain⟨j,k⟩:=x
    have hjm:j<m:=hI.lt (j,k) (by simp)
    have hj:j∈Region.ready .any ops listed:=by
     have hjs:j<ops.size:=by omega
     refine mem_ready.2 ⟨(hI.mem j hjm).2 (by simp),ops[j],Array.getElem?_eq_getElem hjs,fun e he hb=>?_⟩
     have hlt:=back_at hback (Array.getElem?_eq_getElem hjs) e he hb
     have h1:=(hI.mem e.on (by omega))
     rcases Bool.eq_false_or_eq_true (listed.getD e.on false) with h2|h2
     ·exact h2
     ·exfalso
      have h3:=h1.1 ((getD_two (by rw[hI.size];omega)).2 (by simp[h2]))
      obtain⟨y,hy,e2⟩:=List.mem_map.1 h3
      rcases List.mem_cons.1 hy with rfl|hy
      ·simp only at e2;omega
      ·have:=(List.pairwise_cons.1 hI.sorted).1 y hy
       simp only at this e2
       omega
    rw[hr] at hj
    cases hj
  ·obtain⟨h0,o,ho,hall⟩:=mem_ready.1 hi
   have hil:∀ y,listed.getD y false=true→y<m→y ∉ l.map (·.1):=fun y hy hym hmem=>by
    have h1:=(hI.mem y hym).2 hmem
    have h2:y<listed.size:=by rw[hI.size];omega
    rw[getD_two h2] at h1
    exact h1 hy
   have his:i<ops.size:=(Array.getElem?_eq_some_iff.1 ho).1
   rcases Nat.lt_or_ge i m with him|him
   ·-- one of l
    have hmem:=(hI.mem i him).1 h0
    obtain⟨x,hx,ex⟩:=List.mem_map.1 hmem
    obtain⟨l1,l2,rfl⟩:=List.append_of_mem hx
    obtain⟨i',k⟩:=x
    simp only at ex
    subst ex
    have hanc:∀ y∈anc ops 3 i',listed.getD y false=true:=anc_listed hI.down 3 i' (fun o' ho' e he hb=>by obtain rfl:=Option.some.inj (ho.symm.trans ho');exact hall e he hb)
    have hI2:=hI.next hi
    have hsub2:∀ x∈l1++l2,x∈L0:=fun x hx=>hsub x (by
     rcases List.mem_append.1 hx with h|h
     ·exact List.mem_append_left _ h
     ·exact List.mem_append_right _ (List.mem_cons_of_mem _ h))
    have hp2:=pairsTx_drop _ l1 hp
    have hlen:(l1++l2).length+1≤fuel:=by simp only[List.length_append,List.length_cons] at hf ⊢;omega
    cases k with
    | chain=>
     have hl1:∀ x∈l1,x.2=.quiet:=by
      intro x hx
      by_cases hqx:x.2=.quiet
      ·exact hqx
      ·exfalso
       obtain⟨y,hy,ha⟩:=goodTx_waits l1 l2 [] (.inr ⟨_,hx,hqx⟩) hg
       rcases hy with hy|hy
       ·simp at hy
       have hmemy:y∈(l1++(i',LK.chain)::l2).map (·.1):=by
        rw[List.map_append]
        exact List.mem_append_left _ hy
       obtain⟨z,hz,ez⟩:=List.mem_map.1 hmemy
       exact hil y (hanc y ha) (by have:=hI.lt z hz;omega) hmemy
     have hap:∀ x∈l1,∀ ox,ops[x.1]?=some ox→o.apart ops ox=true:=fun x hx ox hox=>by
      have h1:=pairsTx_at l2 l1 hp x hx
      unfold pairTx at h1
      rw[ho,hox,hl1 x hx] at h1
      simp only[Bool.or_eq_true,Bool.and_eq_true,decide_eq_true_eq] at h1
      rcases h1 with (h1|h1)|h1
      ·cases h1.2
      ·exfalso
       exact hil x.1 (hanc x.1 (by simpa using h1)) (hI.lt x (List.mem_append_left _ hx)) (List.mem_map_of_mem (List.mem_append_left _ hx))
      ·exact h1
     obtain⟨o',e1,e2,ι,y0,val,G,I,h4,h6,h5⟩:=wpTz_movec hsel ho l2 l1 iv a F hl1 hap hw
     obtain rfl:=Option.some.inj (ho.symm.trans e1)
     unfold wpOp
     simp only[ho,e2,if_true]
     refine .inl ((h4 w hF hC).wp (fun v w' hpost=>?_))
     obtain⟨y,rfl,hS,hG,hbb⟩:=hpost
     exact ih _ _ (I y::iv) _ w' _ hlen hI2 hsub2 (goodTx_dropc l2 l1 hl1 hg) hp2 (fun h=>hLC (hasLit_sub l1 l2 h)) (fun h=>h6 h y) (fun h z hz=>by
      rcases List.mem_cons.1 hz with rfl|hz
      ·exact(hbb h).2.2
      ·exact Nat.le_trans (hIv (hasLit_sub l1 l2 h) z hz) (hbb h).1.1) hG hS (h5 y)
    | quiet=>
     have hap:∀ x∈l1,∀ ox,ops[x.1]?=some ox→o.apart ops ox=true:=fun x hx ox hox=>by
      have h1:=pairsTx_at l2 l1 hp x hx
      unfold pairTx at h1
      rw[ho,hox] at h1
      simp only[Bool.or_eq_true,Bool.and_eq_true,decide_eq_true_eq] at h1
      rcases h1 with (h1|h1)|h1
      ·cases h1.1
      ·exfalso
       exact hil x.1 (hanc x.1 (by simpa using h1)) (hI.lt x (List.mem_append_left _ hx)) (List.mem_map_of_mem (List.mem_append_left _ hx))
      ·exact h1
     obtain⟨o',v',e1,e2,e4⟩:=wpTz_move ⟨w,hC⟩ hsel ho l2 l1 iv a F hap hw
     obtain rfl:=Option.some.inj (ho.symm.trans e1)
     unfold wpOp
     rcases e2 with ⟨e2,e3⟩|⟨e2,e3⟩
     ·simp only[ho,e2,if_true]
      refine .inl ?_
      unfold Oper.wp
      rw[e3 w hC]
      exact ih _ _ iv _ w F hlen hI2 hsub2 (goodTx_drop (by decide) l2 l1 [] hg) hp2 (fun h=>hLC (hasLit_sub l1 l2 h)) (fun h=>hLF (hasLit_sub l1 l2 h)) (fun h=>hIv (hasLit_sub l1 l2 h)) hF hC e4
     ·simp only[ho,e2,Bool.false_eq_true,if_false]
      rw[←e3]
      exact ih _ _ iv _ w F hlen hI2 hsub2 (goodTx_drop (by decide) l2 l1 [] hg) hp2 (fun h=>hLC (hasLit_sub l1 l2 h)) (fun h=>hLF (hasLit_sub l1 l2 h)) (fun h=>hIv (hasLit_sub l1 l2 h)) hF hC e4
    | lit=>
     have hap:∀ x∈l1,∀ ox,ops[x.1]?=some ox→o.apart ops ox=true:=fun x hx ox hox=>by
      have h1:=pairsTx_at l2 l1 hp x hx
      unfold pairTx at h1
      rw[ho,hox] at h1
      simp only[Bool.or_eq_true,Bool.and_eq_true,decide_eq_true_eq] at h1
      rcases h1 with (h1|h1)|h1
      ·cases h1.1
      ·exfalso
       exact hil x.1 (hanc x.1 (by simpa using h1)) (hI.lt x (List.mem_append_left _ hx)) (List.mem_map_of_mem (List.mem_append_left _ hx))
      ·exact h1
     have hl:hasLit (l1++(i',LK.lit)::l2)=true:=by simp[hasLit]
     obtain⟨hCA,hCB⟩:=hLC hl
     obtain⟨o',e1,e2,e3,e4⟩:=wpTz_movel hsel ho l2 l1 iv a F hap hw
     obtain rfl:=Option.some.inj (ho.symm.trans e1)
     unfold wpOp
     simp only[ho,e2,if_true]
     refine .inl ?_
     unfold Oper.wp
     rw[e3 w]
     have hbw:Below w.heap.size w (w.alloc (lo i')):=bw_alloc _ (bw_refl w)
     refine ih _ _ ((w.heap.size,w.heap.size+1)::iv) _ (w.alloc (lo i')) _ hlen hI2 hsub2 (goodTx_drop (by decide) l2 l1 [] hg) hp2 (fun h=>hLC (hasLit_sub l1 l2 h)) (fun _ w1 w2 hF1 hb=>⟨hLF hl w1 w2 hF1.1 hb,hF1.2.1,(hb.block _ (Array.getElem?_eq_some_iff.1 hF1.2.2.1).1).trans hF1.2.2.1,hF1.2.2.2⟩) (fun _ z hz=>by
      rcases List.mem_cons.1 hz with rfl|hz
      ·simp only[szs];omega
      ·exact Nat.le_trans (hIv hl z hz) (bw_size hbw)) ⟨hLF hl w _ hF hbw,hCB w hC,?_,fun z hz=>.inr (hIv hl z hz)⟩ (hCA w _ hC) (e4 w.heap.size)
     show (w.heap.push (lo i'))[w.heap.size]?=some (lo i')
     exact Array.getElem?_push_size ..
   ·obtain rfl:i=m:=by omega
    exact hend fuel l listed iv a w F (by omega) hI hsub hi hF hC hw
theorem lo_left {m:Nat} {l:List (Nat × LK)} {listed:Array Bool} (hsz:ops.size=m+1) (hI:LoInv ops m l listed) (hi:m∈Region.ready .any ops listed) (x:Nat × LK) (hx:x∈l):¬ x.1∈anc ops 4 m:=by
  intro h1
  obtain⟨h0,o,ho,hall⟩:=mem_ready.1 hi
  have hlt:=hI.lt x hx
  have h2:=anc_listed hI.down 4 _ (fun o' ho' e he hb=>by obtain rfl:=Option.some.inj (ho.symm.trans ho');exact hall e he hb) x.1 h1
  have h3:=(hI.mem x.1 hlt).2 (List.mem_map_of_mem hx)
  have h4:x.1<listed.size:=by rw[hI.size];omega
  rw[getD_two h4] at h3
  exact h3 h2
theorem lo_end {Q:Exit→Act→World→Prop} {m:Nat} {listed:Array Bool} {l:List (Nat × LK)} (hsz:ops.size=m+1) (hI:LoInv ops m l listed) (L:Array Bool) (hL:L.size=listed.size) (hm:L.getD m false=true) (hLd:∀ j,j<m→j∈l.map (·.1)→L.getD j false=true) (hLo:∀ j,listed.getD j false=true→L.getD j false=true) {a:Act} {w:World} (h:Q .normal a w) (fuel:Nat):wpAny P .any ops Q fuel L a w:=by
  refine lo_done ?_ h fuel
  rw[List.eq_nil_iff_forall_not_mem]
  intro j hj
  obtain⟨h1,oj,hoj,_⟩:=mem_ready.1 hj
  have hjs:j<ops.size:=(Array.getElem?_eq_some_iff.1 hoj).1
  have hjL:j<L.size:=by rw[hL,hI.size];exact hjs
  rw[getD_two hjL] at h1
  apply h1
  rcases Nat.lt_or_ge j m with h2|h2
  · by_cases h3:j∈l.map (·.1)
    · exact hLd j h2 h3
    · have h4:j<listed.size:=by omega
      have h5:¬ listed.getD j true=false:=fun e=>h3 ((hI.mem j h2).1 e)
      exact hLo j (by
        rw[getD_two h4,Classical.not_not] at h5
        exact h5)
  · obtain rfl:j=m:=by omega
    exact hm
theorem tz_sound {Q:Exit→Act→World→Prop} {m:Nat} (hfin:∀ a F,Z a F→∀ w,F w→C w→∃ om,ops[m]?=some om∧Region.wanted om (yielded ops a.tmps)=true∧Oper.wp P om a w (fun a' w'=>Q .normal a' w') Q)
    (hns:Region.noSelect ops=true) (hsz:ops.size=m+1) (hlast:lastA ops m=true) (hback:backLo ops=true) :
    ∀ (fuel:Nat) (l:List (Nat × LK)) (listed:Array Bool) (iv:List (Nat × Nat)) (a:Act) (w:World) (F:World→Prop),l.length+1≤fuel→LoInv ops m l listed→goodTx ops [] l=true→pairsTx ops l=true→(hasLit l=true→(∀ w o,C w→C (w.alloc o))∧(∀ w,C w→B≤w.heap.size))→(hasLit l=true→∀ w w',F w→Below w.heap.size w w'→F w')→(hasLit l=true→∀ z∈iv,z.2≤w.heap.size)→F w→C w→wpTz P ops B lo lv C Z l iv a F→wpAny P .any ops Q fuel listed a w:=by
  intro fuel l listed iv a w F hf hI
  refine tz_core l (fun fuel l listed iv a w F hf hI _ hi hF hC hw=>?_) hns hsz hback fuel l listed iv a w F hf hI (fun x hx=>hx)
  have hl:l=[]:=by
    cases l with
    | nil=>rfl
    | cons x l=>
      exfalso
      have hx:=hI.lt x (by simp)
      unfold lastA at hlast
      simp only[List.all_eq_true,List.mem_range] at hlast
      exact lo_left hsz hI hi x (by simp) (by simpa using hlast x.1 hx)
  subst hl
  obtain⟨om,e1,e2,e3⟩:=hfin a F hw w hF hC
  have hms:m<listed.size:=by rw[hI.size];omega
  unfold wpOp
  simp only[e1,e2,if_true]
  exact .inl (Oper.wp_mono (fun a' w' hq=>lo_end hsz hI _ (by simp) (by simp[hms]) (fun j _ hj=>by simp at hj) (fun j hj=>by
    by_cases e:m=j
    · subst e;simp[hms]
    · rw[getD_set_ne false e];exact hj) hq fuel) e3)
theorem wp_region_tz {Q:Exit→Act→World→Prop} {id:Nat} {a:Act} {w:World} (B:Nat) (lo:Nat→Obj) (lv:Nat→Nat→Value) (C:World→Prop) (m:Nat) (l:List (Nat × LK)) (hm:P.follows .mixedOrders=true)
    (hns:Region.noSelect ops=true) (hsz:ops.size=m+1) (hl:l.map (·.1)=List.range m) (hlast:lastA ops m=true) (hback:backLo ops=true) (hg:goodTx ops [] l=true) (hp:pairsTx ops l=true) (hC:C w.drew) (hLC:(∀ w o,C w→C (w.alloc o))∧(∀ w,C w→B≤w.heap.size)) (F0:World→Prop) (hF0:F0 w.drew) (hLF:hasLit l=true→∀ w w',F0 w→Below w.heap.size w w'→F0 w')
    (h:wpTz P ops B lo lv C (lastZ P ops C Q m) l [] a F0):(Code.region id ops true).wp P Q a w:=by
  refine wp_region_any hm ?_
  have hlen:l.length=m:=by have:=congrArg List.length hl;simpa using this
  refine tz_sound (P:=P) (B:=B) (lo:=lo) (lv:=lv) (C:=C) (Z:=lastZ P ops C Q m) (m:=m) (fun a F hz w hF hc=>hz w hF hc) hns hsz hlast hback ops.size l _ [] a _ F0 (by omega) ⟨by simp,fun i hi=>?_,fun x hx=>?_,?_,fun j oj hoj hj=>?_,?_⟩ hg hp (fun _=>hLC) hLF (fun _ z hz=>by simp at hz) hF0 hC h
  · have hi2:i<ops.size:=by omega
    rw[hl]
    simp[hi2,hi]
  · have:x.1∈l.map (·.1):=List.mem_map_of_mem hx
    rw[hl] at this
    simpa using this
  · have:m<ops.size:=by omega
    simp[this]
  · exfalso
    by_cases h1:j<ops.size
    · simp[h1] at hj
    · simp[h1] at hj
  · have h1:(l.map (·.1)).Pairwise (·<·):=by rw[hl];exact List.pairwise_lt_range
    rwa [List.pairwise_map] at h1
end
section
variable {P:Program} {ops:Array Oper} {B:Nat} {lo:Nat→Obj} {lv:Nat→Nat→Value} {C:World→Prop} {Z:Act→(World→Prop)→Prop} {iv:List (Nat × Nat)}
end
section
variable {P:Program} {ops:Array Oper} {B:Nat} {lo:Nat→Obj} {lv:Nat→Nat→Value} {C:World→Prop} {Z:Act→(World→Prop)→Prop} {iv:List (Nat × Nat)}
theorem wpTz_c {i:Nat} {rest:List (Nat × LK)} {a:Act} {F:World→Prop} {o:Oper} (d:Option Tmp) (ho:ops[i]?=some o) (hd:o.dst=d) (hw:Region.wanted o (yielded ops a.tmps)=true) {ι:Type} (y0:ι) (val:ι→Value) (G:ι→World→Prop) (hr:∀ w,F w→C w→LoOp P o a w (fun v w'=>∃ y,v=val y∧C w'∧G y w')) (h:∀ y,wpTz P ops B lo lv C Z rest ((0,0)::iv) (a.put d (val y)) (G y)) (hnl:hasLit rest=false:=by rfl):wpTz P ops B lo lv C Z ((i,.chain)::rest) iv a F:=
  have hn:hasLit rest=true→False:=fun e=>by rw[hnl] at e;cases e
  ⟨o,ho,hw,ι,y0,val,G,fun _=>(0,0),fun w hF hC=>LoOp_mono (hr w hF hC) (fun v w' ⟨y,h1,h2,h3⟩=>⟨y,h1,h2,h3,fun e=>(hn e).elim⟩),fun e=>(hn e).elim,hd ▸ h⟩
end
end Go.Proofs.YtodbglncccgdbaaGreat
namespace Go.Proofs.YtodbglncccgdbaaGreat
open Go.RowKit
open NoC
theorem grid_bounds {g:Grid} (h:gridOk g=true):1≤g.w∧g.w≤4∧1≤g.h∧g.h≤4∧1≤g.w*g.h∧g.w*g.h≤16:=by
  simp only[gridOk,inside,Bool.and_eq_true,decide_eq_true_eq] at h
  obtain⟨⟨a,b⟩,c,d⟩:=h
  refine⟨a,b,c,d,?_,?_⟩
  · have:=Int.mul_le_mul a c (by omega) (by omega);omega
  · have:=Int.mul_le_mul b d (by omega) (by omega);omega
theorem count_bounds (g:Grid):0≤nodeCount g∧nodeCount g≤16:=by
  unfold nodeCount
  split
  · rename_i h;have:=grid_bounds h;omega
  · omega
theorem node_bounds {g:Grid} {a:Int} (h:isNode g a=true):gridOk g=true∧0≤a∧a<g.w*g.h∧a≤15:=by
  simp only[isNode,inside,Bool.and_eq_true,decide_eq_true_eq] at h
  cases hg:gridOk g
  · simp[nodeCount,hg] at h;omega
  · have:=grid_bounds hg
    simp only[nodeCount,hg,if_true] at h
    exact⟨rfl,by omega,by omega,by omega⟩
theorem inside_bounds {n lo hi:Int} (h:inside n lo hi=true):lo≤n∧n≤hi:=by
  simpa [inside] using h
theorem div_bounds {g:Grid} {a:Int} (h:isNode g a=true):0≤a / g.w∧a / g.w≤15∧0≤a % g.w∧a % g.w≤3:=by
  obtain⟨h1,h2,h3,h4⟩:=node_bounds h
  obtain⟨a1,a2,a3,a4,a5,a6⟩:=grid_bounds h1
  have:=Int.emod_nonneg a (show g.w≠0 by omega)
  have:=Int.emod_lt_of_pos a (show 0<g.w by omega)
  have:=Int.ediv_nonneg h2 (show 0≤g.w by omega)
  have:=Int.ediv_le_self g.w h2
  omega

theorem impl_inside (n lo hi:Int) (w:World):Calls Tryz.prog 68 #[.int .i64 n,.int .i64 lo,.int .i64 hi] w fun e w'=>e=.returned (.bool (inside n lo hi))∧w=w':=by
  go_enter Tryz.func68,Tryz.ntmps68
  by_cases h:lo≤n
  · have h1:decide (lo≤n)=true:=decide_eq_true h
    go_wp2
    go_ret
    exact⟨by simp[inside,h],rfl⟩
  · have h1:decide (lo≤n)=false:=decide_eq_false h
    go_wp2
    go_ret
    exact⟨by simp[inside];omega,rfl⟩
theorem spec_l01In (n lo hi:Int) (w:World):Calls Tryz.prog 148 #[.int .i64 n,.int .i64 lo,.int .i64 hi] w fun e w'=>e=.returned (.bool (inside n lo hi))∧w=w':=by
  go_enter Tryz.func148,Tryz.ntmps148
  by_cases h:lo≤n
  · have h1:decide (lo≤n)=true:=decide_eq_true h
    go_wp2
    go_ret
    exact⟨by simp[inside,h],rfl⟩
  · have h1:decide (lo≤n)=false:=decide_eq_false h
    go_wp2
    go_ret
    exact⟨by simp[inside];omega,rfl⟩
theorem impl_GridOk (g:Grid) (w:World):Calls Tryz.prog 112 #[.agg #[.int .i64 g.w,.int .i64 g.h]] w fun e w'=>e=.returned (.bool (gridOk g))∧Below w.heap.size w w':=by
  go_enter Tryz.func112,Tryz.ntmps112
  cases h:inside g.w 1 4
  all_goals
    go_wp2_with (go_at_call 68;refine(impl_inside _ _ _ _).mono ?_;rintro e w' ⟨rfl,rfl⟩)
    go_ret
    exact⟨by simp[gridOk,h],bel⟩
theorem impl_NodeCount (g:Grid) (w:World):Calls Tryz.prog 51 #[.agg #[.int .i64 g.w,.int .i64 g.h]] w fun e w'=>e=.returned (.int .i64 (nodeCount g))∧Below w.heap.size w w':=by
  go_enter Tryz.func51,Tryz.ntmps51
  cases h:gridOk g
  · go_wp2_with (go_at_call 112;refine(impl_GridOk g _).mono ?_;rintro e w1 ⟨rfl,Ba⟩;obtain⟨Ca,Fa,Za⟩:=bcell Ba;(try simp only[szs] at Za);have Bb:=far2;obtain⟨Cb,Fb,Zb⟩:=bcell Bb;(try simp only[szs] at Zb);try (first|obtain⟨Ya,Yb,Yc,Yd⟩:=lts4 Zb|obtain⟨Ya,Yb,Yc⟩:=lts3 Zb|obtain⟨Ya,Yb⟩:=lts2 Zb|have Ya:=lts1 Zb);have hb9:=Ba)
    go_ret
    exact⟨by simp[nodeCount,h],bel⟩
  · obtain⟨a1,a2,a3,a4,a5,a6⟩:=grid_bounds h
    go_wp2_with (go_at_call 112;refine(impl_GridOk g _).mono ?_;rintro e w1 ⟨rfl,Ba⟩;obtain⟨Ca,Fa,Za⟩:=bcell Ba;(try simp only[szs] at Za);have Bb:=far2;obtain⟨Cb,Fb,Zb⟩:=bcell Bb;(try simp only[szs] at Zb);try (first|obtain⟨Ya,Yb,Yc,Yd⟩:=lts4 Zb|obtain⟨Ya,Yb,Yc⟩:=lts3 Zb|obtain⟨Ya,Yb⟩:=lts2 Zb|have Ya:=lts1 Zb);have hb9:=Ba)
    go_ret
    exact⟨by simp[nodeCount,h],bel⟩
theorem impl_NodeAt (g:Grid) (x y:Int) (w:World):Calls Tryz.prog 203 #[.agg #[.int .i64 g.w,.int .i64 g.h],.int .i64 x,.int .i64 y] w fun e w'=>e=.returned (.int .i64 (nodeAt g x y))∧Below w.heap.size w w':=by
  go_enter Tryz.func203,Tryz.ntmps203
  cases h:gridOk g
  · go_wp2_with (first|(go_at_call 112;refine(impl_GridOk g _).mono ?_;rintro e w1 ⟨rfl,Ba⟩;obtain⟨Ca,Fa,Za⟩:=bcell Ba;(try simp only[szs] at Za);have Bb:=far2;obtain⟨Cb,Fb,Zb⟩:=bcell Bb;(try simp only[szs] at Zb);try (first|obtain⟨Ya,Yb,Yc,Yd⟩:=lts4 Zb|obtain⟨Ya,Yb,Yc⟩:=lts3 Zb|obtain⟨Ya,Yb⟩:=lts2 Zb|have Ya:=lts1 Zb);have hb9:=Ba)|(go_at_call 68;refine(impl_inside _ _ _ _).mono ?_;rintro e w' ⟨rfl,rfl⟩))
    go_ret
    exact⟨by simp[nodeAt,h],bel⟩
  · obtain⟨a1,a2,a3,a4,a5,a6⟩:=grid_bounds h
    cases hx:inside x 0 (g.w - 1)
    · go_wp2_with (first|(go_at_call 112;refine(impl_GridOk g _).mono ?_;rintro e w1 ⟨rfl,Ba⟩;obtain⟨Ca,Fa,Za⟩:=bcell Ba;(try simp only[szs] at Za);have Bb:=far2;obtain⟨Cb,Fb,Zb⟩:=bcell Bb;(try simp only[szs] at Zb);try (first|obtain⟨Ya,Yb,Yc,Yd⟩:=lts4 Zb|obtain⟨Ya,Yb,Yc⟩:=lts3 Zb|obtain⟨Ya,Yb⟩:=lts2 Zb|have Ya:=lts1 Zb);have hb9:=Ba)|(go_at_call 68;refine(impl_inside _ _ _ _).mono ?_;rintro e w' ⟨rfl,rfl⟩))
      go_ret
      exact⟨by simp[nodeAt,h,hx],bel⟩
    · cases hy:inside y 0 (g.h - 1)
      · go_wp2_with (first|(go_at_call 112;refine(impl_GridOk g _).mono ?_;rintro e w1 ⟨rfl,Ba⟩;obtain⟨Ca,Fa,Za⟩:=bcell Ba;(try simp only[szs] at Za);have Bb:=far2;obtain⟨Cb,Fb,Zb⟩:=bcell Bb;(try simp only[szs] at Zb);try (first|obtain⟨Ya,Yb,Yc,Yd⟩:=lts4 Zb|obtain⟨Ya,Yb,Yc⟩:=lts3 Zb|obtain⟨Ya,Yb⟩:=lts2 Zb|have Ya:=lts1 Zb);have hb9:=Ba)|(go_at_call 68;refine(impl_inside _ _ _ _).mono ?_;rintro e w' ⟨rfl,rfl⟩))
        go_ret
        exact⟨by simp[nodeAt,h,hx,hy],bel⟩
      · obtain⟨b1,b2⟩:=inside_bounds hy
        obtain⟨b3,b4⟩:=inside_bounds hx
        have b5:0≤y*g.w:=Int.mul_nonneg b1 (by omega)
        have b6:y*g.w≤12:=by have:=Int.mul_le_mul (show y≤3 by omega) a2 (by omega) (by omega);omega
        go_wp2_with (first|(go_at_call 112;refine(impl_GridOk g _).mono ?_;rintro e w1 ⟨rfl,Ba⟩;obtain⟨Ca,Fa,Za⟩:=bcell Ba;(try simp only[szs] at Za);have Bb:=far2;obtain⟨Cb,Fb,Zb⟩:=bcell Bb;(try simp only[szs] at Zb);try (first|obtain⟨Ya,Yb,Yc,Yd⟩:=lts4 Zb|obtain⟨Ya,Yb,Yc⟩:=lts3 Zb|obtain⟨Ya,Yb⟩:=lts2 Zb|have Ya:=lts1 Zb);have hb9:=Ba)|(go_at_call 68;refine(impl_inside _ _ _ _).mono ?_;rintro e w' ⟨rfl,rfl⟩))
        go_ret
        exact⟨by simp[nodeAt,h,hx,hy],bel⟩
theorem impl_isNode (g:Grid) (a:Int) (w:World):Calls Tryz.prog 98 #[.agg #[.int .i64 g.w,.int .i64 g.h],.int .i64 a] w fun e w'=>e=.returned (.bool (isNode g a))∧Below w.heap.size w w':=by
  obtain⟨a1,a2⟩:=count_bounds g
  go_enter Tryz.func98,Tryz.ntmps98
  go_wp2_with (first|(go_at_call 51;refine(impl_NodeCount g _).mono ?_;rintro e w1 ⟨rfl,Ba⟩;obtain⟨Ca,Fa,Za⟩:=bcell Ba;(try simp only[szs] at Za);have Bb:=far2;obtain⟨Cb,Fb,Zb⟩:=bcell Bb;(try simp only[szs] at Zb);try (first|obtain⟨Ya,Yb,Yc,Yd⟩:=lts4 Zb|obtain⟨Ya,Yb,Yc⟩:=lts3 Zb|obtain⟨Ya,Yb⟩:=lts2 Zb|have Ya:=lts1 Zb);have hb9:=Ba)|(go_at_call 68;refine(impl_inside _ _ _ _).mono ?_;rintro e w' ⟨rfl,rfl⟩))
  go_ret
  exact⟨rfl,bel⟩
theorem impl_NextNode (g:Grid) (a p:Int) (w:World):Calls Tryz.prog 166 #[.agg #[.int .i64 g.w,.int .i64 g.h],.int .i64 a,.int .i64 p] w fun e w'=>e=.returned (.int .i64 (nextNode g a p))∧Below w.heap.size w w':=by
  go_enter Tryz.func166,Tryz.ntmps166
  cases h:isNode g a
  · go_wp2_with (go_at_call 98;refine(impl_isNode g _ _).mono ?_;rintro e w1 ⟨rfl,Ba⟩;obtain⟨Ca,Fa,Za⟩:=bcell Ba;(try simp only[szs] at Za);have Bb:=far2;obtain⟨Cb,Fb,Zb⟩:=bcell Bb;(try simp only[szs] at Zb);try (first|obtain⟨Ya,Yb,Yc,Yd⟩:=lts4 Zb|obtain⟨Ya,Yb,Yc⟩:=lts3 Zb|obtain⟨Ya,Yb⟩:=lts2 Zb|have Ya:=lts1 Zb);have hb9:=Ba)
    go_ret
    exact⟨by simp[nextNode,h],bel⟩
  · obtain⟨c1,c2,c3,c4⟩:=node_bounds h
    obtain⟨a1,a2,a3,a4,a5,a6⟩:=grid_bounds c1
    obtain⟨d1,d2,d3,d4⟩:=div_bounds h
    clear c1
    have hp:p=0∨p=1∨p=2∨p=3∨p=4∨((p == 0)=false∧(p == 1)=false∧(p == 2)=false∧(p == 3)=false∧(p == 4)=false):=by
      simp only[beq_eq_false_iff_ne]
      omega
    rcases hp with rfl|rfl|rfl|rfl|rfl|⟨f0,f1,f2,f3,f4⟩
    all_goals
      go_wp2_with (first|(go_at_call 98;refine(impl_isNode g _ _).mono ?_;rintro e w1 ⟨rfl,Ba⟩;obtain⟨Ca,Fa,Za⟩:=bcell Ba;(try simp only[szs] at Za);have Bb:=far2;obtain⟨Cb,Fb,Zb⟩:=bcell Bb;(try simp only[szs] at Zb);try (first|obtain⟨Ya,Yb,Yc,Yd⟩:=lts4 Zb|obtain⟨Ya,Yb,Yc⟩:=lts3 Zb|obtain⟨Ya,Yb⟩:=lts2 Zb|have Ya:=lts1 Zb);have hb9:=Ba)|(go_at_call 203;refine(impl_NodeAt g _ _ _).mono ?_;rintro e w1 ⟨rfl,Ba⟩;obtain⟨Ca,Fa,Za⟩:=bcell Ba;(try simp only[szs] at Za);have Bb:=far2;obtain⟨Cb,Fb,Zb⟩:=bcell Bb;(try simp only[szs] at Zb);try (first|obtain⟨Ya,Yb,Yc,Yd⟩:=lts4 Zb|obtain⟨Ya,Yb,Yc⟩:=lts3 Zb|obtain⟨Ya,Yb⟩:=lts2 Zb|have Ya:=lts1 Zb);have hb9:=Ba))
      try (go_quiet (fail);go_wp2_with (first|(go_at_call 98;refine(impl_isNode g _ _).mono ?_;rintro e w1 ⟨rfl,Ba⟩;obtain⟨Ca,Fa,Za⟩:=bcell Ba;(try simp only[szs] at Za);have Bb:=far2;obtain⟨Cb,Fb,Zb⟩:=bcell Bb;(try simp only[szs] at Zb);try (first|obtain⟨Ya,Yb,Yc,Yd⟩:=lts4 Zb|obtain⟨Ya,Yb,Yc⟩:=lts3 Zb|obtain⟨Ya,Yb⟩:=lts2 Zb|have Ya:=lts1 Zb);have hb9:=Ba)|(go_at_call 203;refine(impl_NodeAt g _ _ _).mono ?_;rintro e w1 ⟨rfl,Ba⟩;obtain⟨Ca,Fa,Za⟩:=bcell Ba;(try simp only[szs] at Za);have Bb:=far2;obtain⟨Cb,Fb,Zb⟩:=bcell Bb;(try simp only[szs] at Zb);try (first|obtain⟨Ya,Yb,Yc,Yd⟩:=lts4 Zb|obtain⟨Ya,Yb,Yc⟩:=lts3 Zb|obtain⟨Ya,Yb⟩:=lts2 Zb|have Ya:=lts1 Zb);have hb9:=Ba)))
      go_ret
      exact⟨by first|(simp[nextNode,h];done)|(simp only[beq_eq_false_iff_ne] at f0 f1 f2 f3 f4;simp[nextNode,h,f0,f1,f2,f3,f4]),bel⟩
theorem impl_Opposite (p:Int) (w:World):Calls Tryz.prog 181 #[.int .i64 p] w fun e w'=>e=.returned (.int .i64 (opposite p))∧Below w.heap.size w w':=by
  go_enter Tryz.func181,Tryz.ntmps181
  by_cases e4:p=4
  · subst e4
    go_wp2_with (go_at_call 68;refine(impl_inside _ _ _ _).mono ?_;rintro e w' ⟨rfl,rfl⟩)
    go_ret
    exact⟨by simp[opposite],bel⟩
  · have f4:(p == 4)=false:=by simpa using e4
    cases h:inside p 0 3
    · go_wp2_with (go_at_call 68;refine(impl_inside _ _ _ _).mono ?_;rintro e w' ⟨rfl,rfl⟩)
      go_ret
      exact⟨by simp[opposite,e4,h],bel⟩
    · obtain⟨b1,b2⟩:=inside_bounds h
      go_wp2_with (go_at_call 68;refine(impl_inside _ _ _ _).mono ?_;rintro e w' ⟨rfl,rfl⟩)
      go_ret
      exact⟨by simp[opposite,e4,h],bel⟩
theorem spec_GridOk (g:Grid) (w:World):Calls Tryz.prog 160 #[.agg #[.int .i64 g.w,.int .i64 g.h]] w fun e w'=>e=.returned (.bool (gridOk g))∧Below w.heap.size w w':=by
  go_enter Tryz.func160,Tryz.ntmps160
  cases h:inside g.w 1 4
  all_goals
    go_wp2_with (go_at_call 148;refine(spec_l01In _ _ _ _).mono ?_;rintro e w' ⟨rfl,rfl⟩)
    go_ret
    exact⟨by simp[gridOk,h],bel⟩
theorem spec_NodeCount (g:Grid) (w:World):Calls Tryz.prog 93 #[.agg #[.int .i64 g.w,.int .i64 g.h]] w fun e w'=>e=.returned (.int .i64 (nodeCount g))∧Below w.heap.size w w':=by
  go_enter Tryz.func93,Tryz.ntmps93
  cases h:gridOk g
  · go_wp2_with (go_at_call 160;refine(spec_GridOk g _).mono ?_;rintro e w1 ⟨rfl,Ba⟩;obtain⟨Ca,Fa,Za⟩:=bcell Ba;(try simp only[szs] at Za);have Bb:=far2;obtain⟨Cb,Fb,Zb⟩:=bcell Bb;(try simp only[szs] at Zb);try (first|obtain⟨Ya,Yb,Yc,Yd⟩:=lts4 Zb|obtain⟨Ya,Yb,Yc⟩:=lts3 Zb|obtain⟨Ya,Yb⟩:=lts2 Zb|have Ya:=lts1 Zb);have hb9:=Ba)
    go_ret
    exact⟨by simp[nodeCount,h],bel⟩
  · obtain⟨a1,a2,a3,a4,a5,a6⟩:=grid_bounds h
    go_wp2_with (go_at_call 160;refine(spec_GridOk g _).mono ?_;rintro e w1 ⟨rfl,Ba⟩;obtain⟨Ca,Fa,Za⟩:=bcell Ba;(try simp only[szs] at Za);have Bb:=far2;obtain⟨Cb,Fb,Zb⟩:=bcell Bb;(try simp only[szs] at Zb);try (first|obtain⟨Ya,Yb,Yc,Yd⟩:=lts4 Zb|obtain⟨Ya,Yb,Yc⟩:=lts3 Zb|obtain⟨Ya,Yb⟩:=lts2 Zb|have Ya:=lts1 Zb);have hb9:=Ba)
    go_ret
    exact⟨by simp[nodeCount,h],bel⟩
theorem spec_NodeAt (g:Grid) (x y:Int) (w:World):Calls Tryz.prog 210 #[.agg #[.int .i64 g.w,.int .i64 g.h],.int .i64 x,.int .i64 y] w fun e w'=>e=.returned (.int .i64 (nodeAt g x y))∧Below w.heap.size w w':=by
  go_enter Tryz.func210,Tryz.ntmps210
  cases h:gridOk g
  · go_wp2_with (first|(go_at_call 160;refine(spec_GridOk g _).mono ?_;rintro e w1 ⟨rfl,Ba⟩;obtain⟨Ca,Fa,Za⟩:=bcell Ba;(try simp only[szs] at Za);have Bb:=far2;obtain⟨Cb,Fb,Zb⟩:=bcell Bb;(try simp only[szs] at Zb);try (first|obtain⟨Ya,Yb,Yc,Yd⟩:=lts4 Zb|obtain⟨Ya,Yb,Yc⟩:=lts3 Zb|obtain⟨Ya,Yb⟩:=lts2 Zb|have Ya:=lts1 Zb);have hb9:=Ba)|(go_at_call 148;refine(spec_l01In _ _ _ _).mono ?_;rintro e w' ⟨rfl,rfl⟩))
    go_ret
    exact⟨by simp[nodeAt,h],bel⟩
  · obtain⟨a1,a2,a3,a4,a5,a6⟩:=grid_bounds h
    cases hx:inside x 0 (g.w - 1)
    · go_wp2_with (first|(go_at_call 160;refine(spec_GridOk g _).mono ?_;rintro e w1 ⟨rfl,Ba⟩;obtain⟨Ca,Fa,Za⟩:=bcell Ba;(try simp only[szs] at Za);have Bb:=far2;obtain⟨Cb,Fb,Zb⟩:=bcell Bb;(try simp only[szs] at Zb);try (first|obtain⟨Ya,Yb,Yc,Yd⟩:=lts4 Zb|obtain⟨Ya,Yb,Yc⟩:=lts3 Zb|obtain⟨Ya,Yb⟩:=lts2 Zb|have Ya:=lts1 Zb);have hb9:=Ba)|(go_at_call 148;refine(spec_l01In _ _ _ _).mono ?_;rintro e w' ⟨rfl,rfl⟩))
      go_ret
      exact⟨by simp[nodeAt,h,hx],bel⟩
    · cases hy:inside y 0 (g.h - 1)
      · go_wp2_with (first|(go_at_call 160;refine(spec_GridOk g _).mono ?_;rintro e w1 ⟨rfl,Ba⟩;obtain⟨Ca,Fa,Za⟩:=bcell Ba;(try simp only[szs] at Za);have Bb:=far2;obtain⟨Cb,Fb,Zb⟩:=bcell Bb;(try simp only[szs] at Zb);try (first|obtain⟨Ya,Yb,Yc,Yd⟩:=lts4 Zb|obtain⟨Ya,Yb,Yc⟩:=lts3 Zb|obtain⟨Ya,Yb⟩:=lts2 Zb|have Ya:=lts1 Zb);have hb9:=Ba)|(go_at_call 148;refine(spec_l01In _ _ _ _).mono ?_;rintro e w' ⟨rfl,rfl⟩))
        go_ret
        exact⟨by simp[nodeAt,h,hx,hy],bel⟩
      · obtain⟨b1,b2⟩:=inside_bounds hy
        obtain⟨b3,b4⟩:=inside_bounds hx
        have b5:0≤y*g.w:=Int.mul_nonneg b1 (by omega)
        have b6:y*g.w≤12:=by have:=Int.mul_le_mul (show y≤3 by omega) a2 (by omega) (by omega);omega
        go_wp2_with (first|(go_at_call 160;refine(spec_GridOk g _).mono ?_;rintro e w1 ⟨rfl,Ba⟩;obtain⟨Ca,Fa,Za⟩:=bcell Ba;(try simp only[szs] at Za);have Bb:=far2;obtain⟨Cb,Fb,Zb⟩:=bcell Bb;(try simp only[szs] at Zb);try (first|obtain⟨Ya,Yb,Yc,Yd⟩:=lts4 Zb|obtain⟨Ya,Yb,Yc⟩:=lts3 Zb|obtain⟨Ya,Yb⟩:=lts2 Zb|have Ya:=lts1 Zb);have hb9:=Ba)|(go_at_call 148;refine(spec_l01In _ _ _ _).mono ?_;rintro e w' ⟨rfl,rfl⟩))
        go_ret
        exact⟨by simp[nodeAt,h,hx,hy],bel⟩
theorem spec_l02Has (g:Grid) (a:Int) (w:World):Calls Tryz.prog 193 #[.agg #[.int .i64 g.w,.int .i64 g.h],.int .i64 a] w fun e w'=>e=.returned (.bool (isNode g a))∧Below w.heap.size w w':=by
  obtain⟨a1,a2⟩:=count_bounds g
  go_enter Tryz.func193,Tryz.ntmps193
  go_wp2_with (first|(go_at_call 93;refine(spec_NodeCount g _).mono ?_;rintro e w1 ⟨rfl,Ba⟩;obtain⟨Ca,Fa,Za⟩:=bcell Ba;(try simp only[szs] at Za);have Bb:=far2;obtain⟨Cb,Fb,Zb⟩:=bcell Bb;(try simp only[szs] at Zb);try (first|obtain⟨Ya,Yb,Yc,Yd⟩:=lts4 Zb|obtain⟨Ya,Yb,Yc⟩:=lts3 Zb|obtain⟨Ya,Yb⟩:=lts2 Zb|have Ya:=lts1 Zb);have hb9:=Ba)|(go_at_call 148;refine(spec_l01In _ _ _ _).mono ?_;rintro e w' ⟨rfl,rfl⟩))
  go_ret
  exact⟨rfl,bel⟩
theorem spec_NextNode (g:Grid) (a p:Int) (w:World):Calls Tryz.prog 177 #[.agg #[.int .i64 g.w,.int .i64 g.h],.int .i64 a,.int .i64 p] w fun e w'=>e=.returned (.int .i64 (nextNode g a p))∧Below w.heap.size w w':=by
  go_enter Tryz.func177,Tryz.ntmps177
  cases h:isNode g a
  · go_wp2_with (go_at_call 193;refine(spec_l02Has g _ _).mono ?_;rintro e w1 ⟨rfl,Ba⟩;obtain⟨Ca,Fa,Za⟩:=bcell Ba;(try simp only[szs] at Za);have Bb:=far2;obtain⟨Cb,Fb,Zb⟩:=bcell Bb;(try simp only[szs] at Zb);try (first|obtain⟨Ya,Yb,Yc,Yd⟩:=lts4 Zb|obtain⟨Ya,Yb,Yc⟩:=lts3 Zb|obtain⟨Ya,Yb⟩:=lts2 Zb|have Ya:=lts1 Zb);have hb9:=Ba)
    go_ret
    exact⟨by simp[nextNode,h],bel⟩
  · obtain⟨c1,c2,c3,c4⟩:=node_bounds h
    obtain⟨a1,a2,a3,a4,a5,a6⟩:=grid_bounds c1
    obtain⟨d1,d2,d3,d4⟩:=div_bounds h
    clear c1
    have hp:p=0∨p=1∨p=2∨p=3∨p=4∨((p == 0)=false∧(p == 1)=false∧(p == 2)=false∧(p == 3)=false∧(p == 4)=false):=by
      simp only[beq_eq_false_iff_ne]
      omega
    rcases hp with rfl|rfl|rfl|rfl|rfl|⟨f0,f1,f2,f3,f4⟩
    all_goals
      go_wp2_with (first|(go_at_call 193;refine(spec_l02Has g _ _).mono ?_;rintro e w1 ⟨rfl,Ba⟩;obtain⟨Ca,Fa,Za⟩:=bcell Ba;(try simp only[szs] at Za);have Bb:=far2;obtain⟨Cb,Fb,Zb⟩:=bcell Bb;(try simp only[szs] at Zb);try (first|obtain⟨Ya,Yb,Yc,Yd⟩:=lts4 Zb|obtain⟨Ya,Yb,Yc⟩:=lts3 Zb|obtain⟨Ya,Yb⟩:=lts2 Zb|have Ya:=lts1 Zb);have hb9:=Ba)|(go_at_call 210;refine(spec_NodeAt g _ _ _).mono ?_;rintro e w1 ⟨rfl,Ba⟩;obtain⟨Ca,Fa,Za⟩:=bcell Ba;(try simp only[szs] at Za);have Bb:=far2;obtain⟨Cb,Fb,Zb⟩:=bcell Bb;(try simp only[szs] at Zb);try (first|obtain⟨Ya,Yb,Yc,Yd⟩:=lts4 Zb|obtain⟨Ya,Yb,Yc⟩:=lts3 Zb|obtain⟨Ya,Yb⟩:=lts2 Zb|have Ya:=lts1 Zb);have hb9:=Ba))
      try (go_quiet (fail);go_wp2_with (first|(go_at_call 193;refine(spec_l02Has g _ _).mono ?_;rintro e w1 ⟨rfl,Ba⟩;obtain⟨Ca,Fa,Za⟩:=bcell Ba;(try simp only[szs] at Za);have Bb:=far2;obtain⟨Cb,Fb,Zb⟩:=bcell Bb;(try simp only[szs] at Zb);try (first|obtain⟨Ya,Yb,Yc,Yd⟩:=lts4 Zb|obtain⟨Ya,Yb,Yc⟩:=lts3 Zb|obtain⟨Ya,Yb⟩:=lts2 Zb|have Ya:=lts1 Zb);have hb9:=Ba)|(go_at_call 210;refine(spec_NodeAt g _ _ _).mono ?_;rintro e w1 ⟨rfl,Ba⟩;obtain⟨Ca,Fa,Za⟩:=bcell Ba;(try simp only[szs] at Za);have Bb:=far2;obtain⟨Cb,Fb,Zb⟩:=bcell Bb;(try simp only[szs] at Zb);try (first|obtain⟨Ya,Yb,Yc,Yd⟩:=lts4 Zb|obtain⟨Ya,Yb,Yc⟩:=lts3 Zb|obtain⟨Ya,Yb⟩:=lts2 Zb|have Ya:=lts1 Zb);have hb9:=Ba)))
      go_ret
      exact⟨by first|(simp[nextNode,h];done)|(simp only[beq_eq_false_iff_ne] at f0 f1 f2 f3 f4;simp[nextNode,h,f0,f1,f2,f3,f4]),bel⟩
theorem spec_Opposite (p:Int) (w:World):Calls Tryz.prog 178 #[.int .i64 p] w fun e w'=>e=.returned (.int .i64 (opposite p))∧Below w.heap.size w w':=by
  go_enter Tryz.func178,Tryz.ntmps178
  by_cases e4:p=4
  · subst e4
    go_wp2_with (go_at_call 148;refine(spec_l01In _ _ _ _).mono ?_;rintro e w' ⟨rfl,rfl⟩)
    go_ret
    exact⟨by simp[opposite],bel⟩
  · have f4:(p == 4)=false:=by simpa using e4
    cases h:inside p 0 3
    · go_wp2_with (go_at_call 148;refine(spec_l01In _ _ _ _).mono ?_;rintro e w' ⟨rfl,rfl⟩)
      go_ret
      exact⟨by simp[opposite,e4,h],bel⟩
    · obtain⟨b1,b2⟩:=inside_bounds h
      go_wp2_with (go_at_call 148;refine(spec_l01In _ _ _ _).mono ?_;rintro e w' ⟨rfl,rfl⟩)
      go_ret
      exact⟨by simp[opposite,e4,h],bel⟩
end Go.Proofs.YtodbglncccgdbaaGreat
namespace Go.Proofs.YtodbglncccgdbaaGreat
open Go.RowKit Go.Proofs.YtodbglncccgdbaaGreatW.PrintWords
open NoC
theorem impl_leads (g:Grid) (c:Int) (w:World):Calls Tryz.prog 165 #[.agg #[.int .i64 g.w,.int .i64 g.h],.int .i64 c] w fun e w'=>e=.returned (.bool (leads g c))∧Below w.heap.size w w':=by
  obtain⟨a1,a2⟩:=count_bounds g
  go_enter Tryz.func165,Tryz.ntmps165
  cases h:inside c 0 (4*nodeCount g - 1)
  · go_wp2_with (first|(go_at_call 51;refine(impl_NodeCount g _).mono ?_;rintro e w1 ⟨rfl,Ba⟩;obtain⟨Ca,Fa,Za⟩:=bcell Ba;(try simp only[szs] at Za);have Bb:=far2;obtain⟨Cb,Fb,Zb⟩:=bcell Bb;(try simp only[szs] at Zb);try (first|obtain⟨Ya,Yb,Yc,Yd⟩:=lts4 Zb|obtain⟨Ya,Yb,Yc⟩:=lts3 Zb|obtain⟨Ya,Yb⟩:=lts2 Zb|have Ya:=lts1 Zb);have hb9:=Ba)|(go_at_call 68;refine(impl_inside _ _ _ _).mono ?_;rintro e w' ⟨rfl,rfl⟩))
    go_ret
    exact⟨by simp[leads,h],bel⟩
  · obtain⟨b1,b2⟩:=inside_bounds h
    go_wp2_with (first|(go_at_call 51;refine(impl_NodeCount g _).mono ?_;rintro e w1 ⟨rfl,Ba⟩;obtain⟨Ca,Fa,Za⟩:=bcell Ba;(try simp only[szs] at Za);have Bb:=far2;obtain⟨Cb,Fb,Zb⟩:=bcell Bb;(try simp only[szs] at Zb);try (first|obtain⟨Ya,Yb,Yc,Yd⟩:=lts4 Zb|obtain⟨Ya,Yb,Yc⟩:=lts3 Zb|obtain⟨Ya,Yb⟩:=lts2 Zb|have Ya:=lts1 Zb);have hb9:=Ba)|(go_at_call 68;refine(impl_inside _ _ _ _).mono ?_;rintro e w' ⟨rfl,rfl⟩)|(go_at_call 166;refine(impl_NextNode g _ _ _).mono ?_;rintro e w1 ⟨rfl,Ba⟩;obtain⟨Ca,Fa,Za⟩:=bcell Ba;(try simp only[szs] at Za);have Bb:=far2;obtain⟨Cb,Fb,Zb⟩:=bcell Bb;(try simp only[szs] at Zb);try (first|obtain⟨Ya,Yb,Yc,Yd⟩:=lts4 Zb|obtain⟨Ya,Yb,Yc⟩:=lts3 Zb|obtain⟨Ya,Yb⟩:=lts2 Zb|have Ya:=lts1 Zb);have hb9:=Ba))
    go_ret
    exact⟨by simp[leads,h],bel⟩
theorem spec_l03Leads (g:Grid) (c:Int) (w:World):Calls Tryz.prog 248 #[.agg #[.int .i64 g.w,.int .i64 g.h],.int .i64 c] w fun e w'=>e=.returned (.bool (leads g c))∧Below w.heap.size w w':=by
  obtain⟨a1,a2⟩:=count_bounds g
  go_enter Tryz.func248,Tryz.ntmps248
  cases h:inside c 0 (4*nodeCount g - 1)
  · go_wp2_with (first|(go_at_call 93;refine(spec_NodeCount g _).mono ?_;rintro e w1 ⟨rfl,Ba⟩;obtain⟨Ca,Fa,Za⟩:=bcell Ba;(try simp only[szs] at Za);have Bb:=far2;obtain⟨Cb,Fb,Zb⟩:=bcell Bb;(try simp only[szs] at Zb);try (first|obtain⟨Ya,Yb,Yc,Yd⟩:=lts4 Zb|obtain⟨Ya,Yb,Yc⟩:=lts3 Zb|obtain⟨Ya,Yb⟩:=lts2 Zb|have Ya:=lts1 Zb);have hb9:=Ba)|(go_at_call 148;refine(spec_l01In _ _ _ _).mono ?_;rintro e w' ⟨rfl,rfl⟩))
    go_ret
    exact⟨by simp[leads,h],bel⟩
  · obtain⟨b1,b2⟩:=inside_bounds h
    go_wp2_with (first|(go_at_call 93;refine(spec_NodeCount g _).mono ?_;rintro e w1 ⟨rfl,Ba⟩;obtain⟨Ca,Fa,Za⟩:=bcell Ba;(try simp only[szs] at Za);have Bb:=far2;obtain⟨Cb,Fb,Zb⟩:=bcell Bb;(try simp only[szs] at Zb);try (first|obtain⟨Ya,Yb,Yc,Yd⟩:=lts4 Zb|obtain⟨Ya,Yb,Yc⟩:=lts3 Zb|obtain⟨Ya,Yb⟩:=lts2 Zb|have Ya:=lts1 Zb);have hb9:=Ba)|(go_at_call 148;refine(spec_l01In _ _ _ _).mono ?_;rintro e w' ⟨rfl,rfl⟩)|(go_at_call 177;refine(spec_NextNode g _ _ _).mono ?_;rintro e w1 ⟨rfl,Ba⟩;obtain⟨Ca,Fa,Za⟩:=bcell Ba;(try simp only[szs] at Za);have Bb:=far2;obtain⟨Cb,Fb,Zb⟩:=bcell Bb;(try simp only[szs] at Zb);try (first|obtain⟨Ya,Yb,Yc,Yd⟩:=lts4 Zb|obtain⟨Ya,Yb,Yc⟩:=lts3 Zb|obtain⟨Ya,Yb⟩:=lts2 Zb|have Ya:=lts1 Zb);have hb9:=Ba))
    go_ret
    exact⟨by simp[leads,h],bel⟩

theorem impl_MeshOk (m:Mesh) (A:Option Addr) (c:Nat) (w:World) (hr:Kd.C (Kd.int .i64) w A m.br.length m.br) (hn:m.br.length≤2097152) :
    Calls Tryz.prog 99 #[.agg #[.int .i64 m.g.w,.int .i64 m.g.h,.slice A m.br.length c]] w fun e w'=>e=.returned (.bool (meshOk m))∧Below w.heap.size w w':=by
  go_enter Tryz.func99,Tryz.ntmps99
  go_wp2
  go_loopw [8] (fun i wr=>∃ k:Nat,k≤m.br.length∧i=.int .i64 k∧Hid (∀ j:Nat,j<k→brokenAt m j=true)∧Below (w.alloc (.cells #[.int .i64 m.g.w,.int .i64 m.g.h,.slice A m.br.length c] 28)).heap.size (w.alloc (.cells #[.int .i64 m.g.w,.int .i64 m.g.h,.slice A m.br.length c] 28)) wr) (fun i _=>m.br.length - (intOf i).toNat)
  case atStart=>exact⟨0,Nat.zero_le _,rfl,Lib.hid fun j h=>absurd h (Nat.not_lt_zero _),Below.refl _ _⟩
  case round=>
    obtain⟨k,hk,rfl,HA,HB⟩:=hrel
    obtain⟨hc0,hf0,hz0⟩:=bcell HB
    simp only[szs] at hz0
    by_cases hlt:k<m.br.length
    · obtain⟨b,off,rfl,hb,hx⟩:=rdI_at hr k hlt
      have hxk:=hx k hlt
      have hx1:=hx (k - 1) (by omega)
      go_wp2_with (go_at_call 165;refine(impl_leads m.g _ _).mono ?_;rintro e w1 ⟨rfl,Ba⟩;obtain⟨Ca,Fa,Za⟩:=bcell Ba;(try simp only[szs] at Za);have Bb:=far2;obtain⟨Cb,Fb,Zb⟩:=bcell Bb;(try simp only[szs] at Zb);try (first|obtain⟨Ya,Yb,Yc,Yd⟩:=lts4 Zb|obtain⟨Ya,Yb,Yc⟩:=lts3 Zb|obtain⟨Ya,Yb⟩:=lts2 Zb|have Ya:=lts1 Zb);have hb9:=Ba)
      · go_ret
        exact⟨ret_bool (meshOk_no k hlt (brokenAt_no2 (by assumption) (by assumption))).symm,bel⟩
      · go_roundw
        case rel=>exact⟨k+1,by omega,by go_num,Lib.hid (upto HA.out (brokenAt_yes1 (by assumption) (by assumption))),bel⟩
        case measure=>simp[intOf];omega
      · go_roundw
        case rel=>exact⟨k+1,by omega,by go_num,Lib.hid (upto HA.out (brokenAt_yes0 (by assumption) (by assumption))),bel⟩
        case measure=>simp[intOf];omega
      · go_ret
        exact⟨ret_bool (meshOk_no k hlt (brokenAt_no1 (by assumption))).symm,bel⟩
    · go_wp2_with (go_at_call 112;refine(impl_GridOk m.g _).mono ?_;rintro e w1 ⟨rfl,Ba⟩;obtain⟨Ca,Fa,Za⟩:=bcell Ba;(try simp only[szs] at Za);have Bb:=far2;obtain⟨Cb,Fb,Zb⟩:=bcell Bb;(try simp only[szs] at Zb);try (first|obtain⟨Ya,Yb,Yc,Yd⟩:=lts4 Zb|obtain⟨Ya,Yb,Yc⟩:=lts3 Zb|obtain⟨Ya,Yb⟩:=lts2 Zb|have Ya:=lts1 Zb);have hb9:=Ba)
      go_ret
      exact⟨ret_bool (meshOk_yes (fun j hj=>HA.out j (by omega))).symm,bel⟩
theorem spec_MeshOk (m:Mesh) (A:Option Addr) (c:Nat) (w:World) (hr:Kd.C (Kd.int .i64) w A m.br.length m.br) (hn:m.br.length≤2097152) :
  Calls Tryz.prog 236 #[.agg #[.int .i64 m.g.w,.int .i64 m.g.h,.slice A m.br.length c]] w fun e w'=>e=.returned (.bool (meshOk m))∧Below w.heap.size w w':=by
 go_enter Tryz.func236,Tryz.ntmps236
 cases hg:gridOk m.g
 ·go_wp2_with (go_at_call 160;refine(spec_GridOk m.g _).mono ?_;rintro e w1 ⟨rfl,Ba⟩;obtain⟨Ca,Fa,Za⟩:=bcell Ba;(try simp only[szs] at Za);have Bb:=far2;obtain⟨Cb,Fb,Zb⟩:=bcell Bb;(try simp only[szs] at Zb);try (first|obtain⟨Ya,Yb,Yc,Yd⟩:=lts4 Zb|obtain⟨Ya,Yb,Yc⟩:=lts3 Zb|obtain⟨Ya,Yb⟩:=lts2 Zb|have Ya:=lts1 Zb);have hb9:=Ba)
  go_ret
  exact⟨ret_bool (by simp[meshOk,hg]),bel⟩
 go_wp2_with (go_at_call 160;refine(spec_GridOk m.g _).mono ?_;rintro e w1 ⟨rfl,Ba⟩;obtain⟨Ca,Fa,Za⟩:=bcell Ba;(try simp only[szs] at Za);have Bb:=far2;obtain⟨Cb,Fb,Zb⟩:=bcell Bb;(try simp only[szs] at Zb);try (first|obtain⟨Ya,Yb,Yc,Yd⟩:=lts4 Zb|obtain⟨Ya,Yb,Yc⟩:=lts3 Zb|obtain⟨Ya,Yb⟩:=lts2 Zb|have Ya:=lts1 Zb);have hb9:=Ba)
 go_loopw [3] (fun i wr=>∃ k:Nat,k≤m.br.length∧i=.int .i64 k∧Hid (∀ j:Nat,j<k→brokenAt m j=true)∧Below (w.alloc (.cells #[.int .i64 m.g.w,.int .i64 m.g.h,.slice A m.br.length c] 28)).heap.size (w.alloc (.cells #[.int .i64 m.g.w,.int .i64 m.g.h,.slice A m.br.length c] 28)) wr) (fun i _=>m.br.length - (intOf i).toNat)
 case atStart=>exact⟨0,Nat.zero_le _,rfl,Lib.hid fun j h=>absurd h (Nat.not_lt_zero _),bel⟩
 case round=>
  obtain⟨k,hk,rfl,HA,HB⟩:=hrel
  obtain⟨hc0,hf0,hz0⟩:=bcell HB
  simp only[szs] at hz0
  by_cases hlt:k<m.br.length
  ·obtain⟨b,off,rfl,hb,hx⟩:=rdI_at hr k hlt
   have hxk:=hx k hlt
   have hx1:=hx (k - 1) (by omega)
   have i0:(0:Int)≤(k:Int):=by omega
   have i1:(k:Int)<(m.br.length:Int):=by omega
   cases hl:leads m.g (ri m.br k)
   ·go_wp2_with fail
    refine wp_region_far (w.alloc (.cells #[.int .i64 m.g.w,.int .i64 m.g.h,.slice (some ⟨b,off,none⟩) m.br.length c] 28)) (by kernel_rfl) (by kernel_rfl) bel ?_
    have hqc:=far_cell (w.alloc (.cells #[.int .i64 m.g.w,.int .i64 m.g.h,.slice (some ⟨b,off,none⟩) m.br.length c] 28))
    have hqf:=far_frozen (w.alloc (.cells #[.int .i64 m.g.w,.int .i64 m.g.h,.slice (some ⟨b,off,none⟩) m.br.length c] 28))
    repeat (first|go_big_quiet_step ((go_at_call 248;exact far_call (Calls.says (spec_l03Leads m.g _ _) (congrArg Value.bool hl))))|quiet_step ((go_at_call 248;exact far_call (Calls.says (spec_l03Leads m.g _ _) (congrArg Value.bool hl)))))
    refine wpQuiet_nil ?_
    intro wq hbq
    clear hqc hqf
    obtain⟨hcq,hfq,hzq⟩:=bcell hbq
    try simp only[szs] at hzq
    go_wp2
    go_ret
    exact⟨ret_bool (meshOk_no k hlt (brokenAt_no1 (by simp[hl]))).symm,bel⟩
   ·by_cases h0:0<k
    ·have hd:decide ((0:Int)<(k:Int))=true:=decide_eq_true (by omega)
     go_wp2_with fail
     refine wp_region_far (w.alloc (.cells #[.int .i64 m.g.w,.int .i64 m.g.h,.slice (some ⟨b,off,none⟩) m.br.length c] 28)) (by kernel_rfl) (by kernel_rfl) bel ?_
     have hqc:=far_cell (w.alloc (.cells #[.int .i64 m.g.w,.int .i64 m.g.h,.slice (some ⟨b,off,none⟩) m.br.length c] 28))
     have hqf:=far_frozen (w.alloc (.cells #[.int .i64 m.g.w,.int .i64 m.g.h,.slice (some ⟨b,off,none⟩) m.br.length c] 28))
     repeat (first|go_big_quiet_step ((go_at_call 248;exact far_call (Calls.says (spec_l03Leads m.g _ _) (congrArg Value.bool hl))))|quiet_step ((go_at_call 248;exact far_call (Calls.says (spec_l03Leads m.g _ _) (congrArg Value.bool hl)))))
     refine wpQuiet_nil ?_
     intro wq hbq
     clear hqc hqf
     obtain⟨hcq,hfq,hzq⟩:=bcell hbq
     try simp only[szs] at hzq
     go_wp2
     ·go_ret
      exact⟨ret_bool (meshOk_no k hlt (brokenAt_no2 (by assumption) (by assumption))).symm,bel⟩
     ·go_roundw
      case rel=>exact⟨k+1,by omega,by go_num,Lib.hid (upto HA.out (brokenAt_yes1 (by assumption) (by omega))),bel⟩
      case measure=>simp[intOf];omega
    ·have hd:decide ((0:Int)<(k:Int))=false:=decide_eq_false (by omega)
     go_wp2_with fail
     refine wp_region_far (w.alloc (.cells #[.int .i64 m.g.w,.int .i64 m.g.h,.slice (some ⟨b,off,none⟩) m.br.length c] 28)) (by kernel_rfl) (by kernel_rfl) bel ?_
     have hqc:=far_cell (w.alloc (.cells #[.int .i64 m.g.w,.int .i64 m.g.h,.slice (some ⟨b,off,none⟩) m.br.length c] 28))
     have hqf:=far_frozen (w.alloc (.cells #[.int .i64 m.g.w,.int .i64 m.g.h,.slice (some ⟨b,off,none⟩) m.br.length c] 28))
     repeat (first|go_big_quiet_step ((go_at_call 248;exact far_call (Calls.says (spec_l03Leads m.g _ _) (congrArg Value.bool hl))))|quiet_step ((go_at_call 248;exact far_call (Calls.says (spec_l03Leads m.g _ _) (congrArg Value.bool hl)))))
     refine wpQuiet_nil ?_
     intro wq hbq
     clear hqc hqf
     obtain⟨hcq,hfq,hzq⟩:=bcell hbq
     try simp only[szs] at hzq
     go_wp2
     go_roundw
     case rel=>exact⟨k+1,by omega,by go_num,Lib.hid (upto HA.out (brokenAt_yes0 (by assumption) (by assumption))),bel⟩
     case measure=>simp[intOf];omega
  ·go_wp2
   go_ret
   exact⟨ret_bool (by rw[meshOk_yes (fun j hj=>HA.out j (by omega)),hg]),bel⟩

theorem slices_Index_int (l:List Int) (x:Int) (A:Option Addr) (c:Nat) (w:World) (hr:Kd.C (Kd.int .i64) w A l.length l) (hn:l.length≤2097152) :
    Calls Tryz.prog 121 #[.slice A l.length c,.int .i64 x] w fun e w'=>e=.returned (.int .i64 (idx l x))∧w=w':=by
  go_enter Tryz.func121,Tryz.ntmps121
  go_wp2
  go_loop [8] (fun i=>∃ k:Nat,k≤l.length∧i=.int .i64 k∧Hid (∀ j:Nat,j<k→¬ ri l j=x)) (fun i=>l.length - (intOf i).toNat)
  case atStart=>exact⟨0,Nat.zero_le _,rfl,Lib.hid fun j h=>absurd h (Nat.not_lt_zero _)⟩
  case round=>
    obtain⟨k,hk,rfl,HA⟩:=hrel
    by_cases hlt:k<l.length
    · obtain⟨b,off,rfl,hb,hx⟩:=rdI_at hr k hlt
      have hxk:=hx k hlt
      by_cases e:ri l k=x
      · have e1:(x == ri l k)=true:=beq_iff_eq.2 e.symm
        have HE:=Lib.hid e
        clear e
        go_wp2
        go_ret
        exact⟨ret_int (idx_yes k hlt HE.out HA.out).symm,rfl⟩
      · have e1:(x == ri l k)=false:=beq_eq_false_iff_ne.2 (Ne.symm e)
        have HE:=Lib.hid e
        clear e
        go_wp2
        go_round
        case rel=>exact⟨k+1,by omega,by go_num,Lib.hid (upto HA.out HE.out)⟩
        case measure=>simp[intOf];omega
    · go_wp2
      go_ret
      exact⟨ret_int (idx_no (fun j hj=>HA.out j (by omega))).symm,rfl⟩
theorem slices_Contains_int (l:List Int) (x:Int) (A:Option Addr) (c:Nat) (w:World) (hr:Kd.C (Kd.int .i64) w A l.length l) (hn:l.length≤2097152) :
    Calls Tryz.prog 62 #[.slice A l.length c,.int .i64 x] w fun e w'=>e=.returned (.bool (has l x))∧w=w':=by
  go_enter Tryz.func62,Tryz.ntmps62
  go_wp2_with (go_at_call 121;refine(slices_Index_int _ _ _ _ _ hr hn).mono ?_;rintro e w' ⟨rfl,rfl⟩)
  go_ret
  exact⟨ret_bool (by simpa using idx_contains l x),rfl⟩
theorem spec_l03Find (l:List Int) (x:Int) (A:Option Addr) (c:Nat) (w:World) (hr:Kd.C (Kd.int .i64) w A l.length l) (hn:l.length≤2097152) :
    Calls Tryz.prog 170 #[.slice A l.length c,.int .i64 x] w fun e w'=>e=.returned (.bool (has l x))∧w=w':=by
  go_enter Tryz.func170,Tryz.ntmps170
  go_wp2
  go_loop [5] (fun i=>∃ k:Nat,k≤l.length∧i=.int .i64 k∧Hid (∀ j:Nat,j<k→¬ ri l j=x)) (fun i=>l.length - (intOf i).toNat)
  case atStart=>exact⟨0,Nat.zero_le _,rfl,Lib.hid fun j h=>absurd h (Nat.not_lt_zero _)⟩
  case round=>
    obtain⟨k,hk,rfl,HA⟩:=hrel
    by_cases hlt:k<l.length
    · obtain⟨b,off,rfl,hb,hx⟩:=rdI_at hr k hlt
      have hxk:=hx k hlt
      by_cases e:ri l k=x
      · have e1:(ri l k == x)=true:=beq_iff_eq.2 e
        have HE:=Lib.hid e
        clear e
        go_wp2
        go_ret
        exact⟨ret_bool (contains_yes k hlt HE.out).symm,rfl⟩
      · have e1:(ri l k == x)=false:=beq_eq_false_iff_ne.2 e
        have HE:=Lib.hid e
        clear e
        go_wp2
        go_round
        case rel=>exact⟨k+1,by omega,by go_num,Lib.hid (upto HA.out HE.out)⟩
        case measure=>simp[intOf];omega
    · go_wp2
      go_ret
      exact⟨ret_bool (contains_no (fun j hj=>HA.out j (by omega))).symm,rfl⟩
theorem impl_live (m:Mesh) (x:Int) (A:Option Addr) (c:Nat) (w:World) (hr:Kd.C (Kd.int .i64) w A m.br.length m.br) (hn:m.br.length≤2097152) :
    Calls Tryz.prog 132 #[.agg #[.int .i64 m.g.w,.int .i64 m.g.h,.slice A m.br.length c],.int .i64 x] w fun e w'=>e=.returned (.bool (live m x))∧Below w.heap.size w w':=by
  go_enter Tryz.func132,Tryz.ntmps132
  cases hl:leads m.g x
  · go_wp2_with (go_at_call 165;refine(impl_leads m.g _ _).mono ?_;rintro e w1 ⟨rfl,Ba⟩;obtain⟨Ca,Fa,Za⟩:=bcell Ba;(try simp only[szs] at Za);have Bb:=far2;obtain⟨Cb,Fb,Zb⟩:=bcell Bb;(try simp only[szs] at Zb);try (first|obtain⟨Ya,Yb,Yc,Yd⟩:=lts4 Zb|obtain⟨Ya,Yb,Yc⟩:=lts3 Zb|obtain⟨Ya,Yb⟩:=lts2 Zb|have Ya:=lts1 Zb);have hb9:=Ba)
    go_ret
    exact⟨ret_bool (by simp[live,hl]),bel⟩
  · go_wp2_with (first|(go_at_call 165;refine(impl_leads m.g _ _).mono ?_;rintro e w1 ⟨rfl,Ba⟩;obtain⟨Ca,Fa,Za⟩:=bcell Ba;(try simp only[szs] at Za);have Bb:=far2;obtain⟨Cb,Fb,Zb⟩:=bcell Bb;(try simp only[szs] at Zb);try (first|obtain⟨Ya,Yb,Yc,Yd⟩:=lts4 Zb|obtain⟨Ya,Yb,Yc⟩:=lts3 Zb|obtain⟨Ya,Yb⟩:=lts2 Zb|have Ya:=lts1 Zb);have hb9:=Ba)|(go_at_call 62;refine(slices_Contains_int m.br x _ _ _ (by exact Kd.C_below hr bel) hn).mono ?_;rintro e w' ⟨rfl,rfl⟩))
    go_ret
    exact⟨ret_bool (by simp[live,hl]),bel⟩
theorem impl_HasChannel (m:Mesh) (x:Int) (A:Option Addr) (c:Nat) (w:World) (hr:Kd.C (Kd.int .i64) w A m.br.length m.br) (hn:m.br.length≤2097152) :
    Calls Tryz.prog 101 #[.agg #[.int .i64 m.g.w,.int .i64 m.g.h,.slice A m.br.length c],.int .i64 x] w fun e w'=>e=.returned (.bool (hasChannel m x))∧Below w.heap.size w w':=by
  go_enter Tryz.func101,Tryz.ntmps101
  cases hm:meshOk m
  · go_wp2_with (go_at_call 99;refine(impl_MeshOk m _ _ _ (by exact Kd.C_below hr bel) hn).mono ?_;rintro e w1 ⟨rfl,Ba⟩;obtain⟨Ca,Fa,Za⟩:=bcell Ba;(try simp only[szs] at Za);have Bb:=far2;obtain⟨Cb,Fb,Zb⟩:=bcell Bb;(try simp only[szs] at Zb);try (first|obtain⟨Ya,Yb,Yc,Yd⟩:=lts4 Zb|obtain⟨Ya,Yb,Yc⟩:=lts3 Zb|obtain⟨Ya,Yb⟩:=lts2 Zb|have Ya:=lts1 Zb);have hb9:=Ba)
    go_ret
    exact⟨ret_bool (by simp[hasChannel,hm]),bel⟩
  cases hl:leads m.g x
  · go_wp2_with (first|(go_at_call 99;refine(impl_MeshOk m _ _ _ (by exact Kd.C_below hr bel) hn).mono ?_;rintro e w1 ⟨rfl,Ba⟩;obtain⟨Ca,Fa,Za⟩:=bcell Ba;(try simp only[szs] at Za);have Bb:=far2;obtain⟨Cb,Fb,Zb⟩:=bcell Bb;(try simp only[szs] at Zb);try (first|obtain⟨Ya,Yb,Yc,Yd⟩:=lts4 Zb|obtain⟨Ya,Yb,Yc⟩:=lts3 Zb|obtain⟨Ya,Yb⟩:=lts2 Zb|have Ya:=lts1 Zb);have hb9:=Ba)|(go_at_call 165;refine(impl_leads m.g _ _).mono ?_;rintro e w1 ⟨rfl,Ba⟩;obtain⟨Ca,Fa,Za⟩:=bcell Ba;(try simp only[szs] at Za);have Bb:=far2;obtain⟨Cb,Fb,Zb⟩:=bcell Bb;(try simp only[szs] at Zb);try (first|obtain⟨Ya,Yb,Yc,Yd⟩:=lts4 Zb|obtain⟨Ya,Yb,Yc⟩:=lts3 Zb|obtain⟨Ya,Yb⟩:=lts2 Zb|have Ya:=lts1 Zb);have hb9:=Ba))
    go_ret
    exact⟨ret_bool (by simp[hasChannel,live,hm,hl]),bel⟩
  · go_wp2_with (first|(go_at_call 99;refine(impl_MeshOk m _ _ _ (by exact Kd.C_below hr bel) hn).mono ?_;rintro e w1 ⟨rfl,Ba⟩;obtain⟨Ca,Fa,Za⟩:=bcell Ba;(try simp only[szs] at Za);have Bb:=far2;obtain⟨Cb,Fb,Zb⟩:=bcell Bb;(try simp only[szs] at Zb);try (first|obtain⟨Ya,Yb,Yc,Yd⟩:=lts4 Zb|obtain⟨Ya,Yb,Yc⟩:=lts3 Zb|obtain⟨Ya,Yb⟩:=lts2 Zb|have Ya:=lts1 Zb);have hb9:=Ba)|(go_at_call 165;refine(impl_leads m.g _ _).mono ?_;rintro e w1 ⟨rfl,Ba⟩;obtain⟨Ca,Fa,Za⟩:=bcell Ba;(try simp only[szs] at Za);have Bb:=far2;obtain⟨Cb,Fb,Zb⟩:=bcell Bb;(try simp only[szs] at Zb);try (first|obtain⟨Ya,Yb,Yc,Yd⟩:=lts4 Zb|obtain⟨Ya,Yb,Yc⟩:=lts3 Zb|obtain⟨Ya,Yb⟩:=lts2 Zb|have Ya:=lts1 Zb);have hb9:=Ba)|(go_at_call 62;refine(slices_Contains_int m.br x _ _ _ (by exact Kd.C_below hr bel) hn).mono ?_;rintro e w' ⟨rfl,rfl⟩))
    go_ret
    exact⟨ret_bool (by simp[hasChannel,live,hm,hl]),bel⟩
theorem spec_l03Has (m:Mesh) (x:Int) (A:Option Addr) (c:Nat) (w:World) (hr:Kd.C (Kd.int .i64) w A m.br.length m.br) (hn:m.br.length≤2097152) :
    Calls Tryz.prog 237 #[.agg #[.int .i64 m.g.w,.int .i64 m.g.h,.slice A m.br.length c],.int .i64 x] w fun e w'=>e=.returned (.bool (live m x))∧Below w.heap.size w w':=by
  go_enter Tryz.func237,Tryz.ntmps237
  cases hl:leads m.g x
  · go_wp2_with (go_at_call 248;refine(spec_l03Leads m.g _ _).mono ?_;rintro e w1 ⟨rfl,Ba⟩;obtain⟨Ca,Fa,Za⟩:=bcell Ba;(try simp only[szs] at Za);have Bb:=far2;obtain⟨Cb,Fb,Zb⟩:=bcell Bb;(try simp only[szs] at Zb);try (first|obtain⟨Ya,Yb,Yc,Yd⟩:=lts4 Zb|obtain⟨Ya,Yb,Yc⟩:=lts3 Zb|obtain⟨Ya,Yb⟩:=lts2 Zb|have Ya:=lts1 Zb);have hb9:=Ba)
    go_ret
    exact⟨ret_bool (by simp[live,hl]),bel⟩
  · go_wp2_with (first|(go_at_call 248;refine(spec_l03Leads m.g _ _).mono ?_;rintro e w1 ⟨rfl,Ba⟩;obtain⟨Ca,Fa,Za⟩:=bcell Ba;(try simp only[szs] at Za);have Bb:=far2;obtain⟨Cb,Fb,Zb⟩:=bcell Bb;(try simp only[szs] at Zb);try (first|obtain⟨Ya,Yb,Yc,Yd⟩:=lts4 Zb|obtain⟨Ya,Yb,Yc⟩:=lts3 Zb|obtain⟨Ya,Yb⟩:=lts2 Zb|have Ya:=lts1 Zb);have hb9:=Ba)|(go_at_call 170;refine(spec_l03Find m.br x _ _ _ (by exact Kd.C_below hr bel) hn).mono ?_;rintro e w' ⟨rfl,rfl⟩))
    go_ret
    exact⟨ret_bool (by simp[live,hl]),bel⟩
theorem impl_endOf (m:Mesh) (a p:Int) (A:Option Addr) (c:Nat) (w:World) (ha:isNode m.g a=true) (h0:0≤p) (h3:p≤3) :
    Calls Tryz.prog 102 #[.agg #[.int .i64 m.g.w,.int .i64 m.g.h,.slice A m.br.length c],.int .i64 (4*a+p)] w fun e w'=>e=.returned (.int .i64 (nextNode m.g a p))∧Below w.heap.size w w':=by
  obtain⟨b1,b2,b3,b4⟩:=node_bounds ha
  have hd:=(chan_div (a:=a) h0 h3).1
  have hm:=(chan_div (a:=a) h0 h3).2
  go_enter Tryz.func102,Tryz.ntmps102
  go_wp2_with (go_at_call 166;refine(impl_NextNode m.g _ _ _).mono ?_;rintro e w1 ⟨rfl,Ba⟩;obtain⟨Ca,Fa,Za⟩:=bcell Ba;(try simp only[szs] at Za);have Bb:=far2;obtain⟨Cb,Fb,Zb⟩:=bcell Bb;(try simp only[szs] at Zb);try (first|obtain⟨Ya,Yb,Yc,Yd⟩:=lts4 Zb|obtain⟨Ya,Yb,Yc⟩:=lts3 Zb|obtain⟨Ya,Yb⟩:=lts2 Zb|have Ya:=lts1 Zb);have hb9:=Ba)
  go_ret
  exact⟨rfl,bel⟩

theorem impl_PortAt (m:Mesh) (t:List Int) (a b:Int) (A B:Option Addr) (c d:Nat) (w:World) (hr:Kd.C (Kd.int .i64) w A m.br.length m.br) (hn:m.br.length≤2097152) (ht:Kd.C (Kd.int .i64) w B t.length t) (hk:t.length≤2097152) :
    Calls Tryz.prog 100 #[.agg #[.int .i64 m.g.w,.int .i64 m.g.h,.slice A m.br.length c],.agg #[.slice B t.length d],.int .i64 a,.int .i64 b] w fun e w'=>e=.returned (.int .i64 (portAt m t a b))∧Below w.heap.size w w':=by
  obtain⟨n0,n1⟩:=count_le m.g
  go_enter Tryz.func100,Tryz.ntmps100
  cases hm:meshOk m
  · go_wp2_with (first|(go_at_call 51;refine(impl_NodeCount m.g _).mono ?_;rintro e w1 ⟨rfl,Ba⟩;obtain⟨Ca,Fa,Za⟩:=bcell Ba;(try simp only[szs] at Za);have Bb:=far2;obtain⟨Cb,Fb,Zb⟩:=bcell Bb;(try simp only[szs] at Zb);try (first|obtain⟨Ya,Yb,Yc,Yd⟩:=lts4 Zb|obtain⟨Ya,Yb,Yc⟩:=lts3 Zb|obtain⟨Ya,Yb⟩:=lts2 Zb|have Ya:=lts1 Zb);have hb9:=Ba)|(go_at_call 99;refine(impl_MeshOk m _ _ _ (by exact Kd.C_below hr bel) hn).mono ?_;rintro e w1 ⟨rfl,Ba⟩;obtain⟨Ca,Fa,Za⟩:=bcell Ba;(try simp only[szs] at Za);have Bb:=far2;obtain⟨Cb,Fb,Zb⟩:=bcell Bb;(try simp only[szs] at Zb);try (first|obtain⟨Ya,Yb,Yc,Yd⟩:=lts4 Zb|obtain⟨Ya,Yb,Yc⟩:=lts3 Zb|obtain⟨Ya,Yb⟩:=lts2 Zb|have Ya:=lts1 Zb);have hb9:=Ba))
    go_ret
    exact⟨ret_int (by simp[portAt,sized,hm]),bel⟩
  cases ha:inside a 0 (nodeCount m.g - 1)
  · go_wp2_with (first|(go_at_call 51;refine(impl_NodeCount m.g _).mono ?_;rintro e w1 ⟨rfl,Ba⟩;obtain⟨Ca,Fa,Za⟩:=bcell Ba;(try simp only[szs] at Za);have Bb:=far2;obtain⟨Cb,Fb,Zb⟩:=bcell Bb;(try simp only[szs] at Zb);try (first|obtain⟨Ya,Yb,Yc,Yd⟩:=lts4 Zb|obtain⟨Ya,Yb,Yc⟩:=lts3 Zb|obtain⟨Ya,Yb⟩:=lts2 Zb|have Ya:=lts1 Zb);have hb9:=Ba)|(go_at_call 99;refine(impl_MeshOk m _ _ _ (by exact Kd.C_below hr bel) hn).mono ?_;rintro e w1 ⟨rfl,Ba⟩;obtain⟨Ca,Fa,Za⟩:=bcell Ba;(try simp only[szs] at Za);have Bb:=far2;obtain⟨Cb,Fb,Zb⟩:=bcell Bb;(try simp only[szs] at Zb);try (first|obtain⟨Ya,Yb,Yc,Yd⟩:=lts4 Zb|obtain⟨Ya,Yb,Yc⟩:=lts3 Zb|obtain⟨Ya,Yb⟩:=lts2 Zb|have Ya:=lts1 Zb);have hb9:=Ba)|(go_at_call 68;refine(impl_inside _ _ _ _).mono ?_;rintro e w' ⟨rfl,rfl⟩))
    go_ret
    exact⟨ret_int (by simp[portAt,isNode,ha]),bel⟩
  cases hb:inside b 0 (nodeCount m.g - 1)
  · go_wp2_with (first|(go_at_call 51;refine(impl_NodeCount m.g _).mono ?_;rintro e w1 ⟨rfl,Ba⟩;obtain⟨Ca,Fa,Za⟩:=bcell Ba;(try simp only[szs] at Za);have Bb:=far2;obtain⟨Cb,Fb,Zb⟩:=bcell Bb;(try simp only[szs] at Zb);try (first|obtain⟨Ya,Yb,Yc,Yd⟩:=lts4 Zb|obtain⟨Ya,Yb,Yc⟩:=lts3 Zb|obtain⟨Ya,Yb⟩:=lts2 Zb|have Ya:=lts1 Zb);have hb9:=Ba)|(go_at_call 99;refine(impl_MeshOk m _ _ _ (by exact Kd.C_below hr bel) hn).mono ?_;rintro e w1 ⟨rfl,Ba⟩;obtain⟨Ca,Fa,Za⟩:=bcell Ba;(try simp only[szs] at Za);have Bb:=far2;obtain⟨Cb,Fb,Zb⟩:=bcell Bb;(try simp only[szs] at Zb);try (first|obtain⟨Ya,Yb,Yc,Yd⟩:=lts4 Zb|obtain⟨Ya,Yb,Yc⟩:=lts3 Zb|obtain⟨Ya,Yb⟩:=lts2 Zb|have Ya:=lts1 Zb);have hb9:=Ba)|(go_at_call 68;refine(impl_inside _ _ _ _).mono ?_;rintro e w' ⟨rfl,rfl⟩))
    go_ret
    exact⟨ret_int (by simp[portAt,isNode,hb]),bel⟩
  obtain⟨p1,p2,p3,p4⟩:=entry_place (g:=m.g) (a:=a) (b:=b) ha hb
  have p5:0≤nodeCount m.g*nodeCount m.g:=by omega
  have p6:nodeCount m.g*nodeCount m.g≤256:=Int.mul_le_mul n1 n1 n0 (by omega)
  by_cases hs:(t.length:Int)=nodeCount m.g*nodeCount m.g
  · have e1:((t.length:Int) != nodeCount m.g*nodeCount m.g)=false:=bne_eq_false_iff_eq.2 hs
    have q4:a*nodeCount m.g+b<(t.length:Int):=by omega
    have HS:=Lib.hid hs
    clear hs
    obtain⟨bb,off,rfl,hbl,hx⟩:=rdI_at ht (a*nodeCount m.g+b).toNat (by omega)
    have hxe:=hx (a*nodeCount m.g+b).toNat (by omega)
    obtain⟨z1,z2,z3,z4,z5,z6⟩:=more hbl
    clear hx
    rw[Int.toNat_of_nonneg p3] at hxe
    have hen:entry m t a b=ri t (a*nodeCount m.g+b):=rfl
    have HEN:=Lib.hid hen
    clear hen
    cases hi:inside (ri t (a*nodeCount m.g+b)) 0 4
    · go_wp2_with (first|(go_at_call 51;refine(impl_NodeCount m.g _).mono ?_;rintro e w1 ⟨rfl,Ba⟩;obtain⟨Ca,Fa,Za⟩:=bcell Ba;(try simp only[szs] at Za);have Bb:=far2;obtain⟨Cb,Fb,Zb⟩:=bcell Bb;(try simp only[szs] at Zb);try (first|obtain⟨Ya,Yb,Yc,Yd⟩:=lts4 Zb|obtain⟨Ya,Yb,Yc⟩:=lts3 Zb|obtain⟨Ya,Yb⟩:=lts2 Zb|have Ya:=lts1 Zb);have hb9:=Ba)|(go_at_call 99;refine(impl_MeshOk m _ _ _ (by exact Kd.C_below hr bel) hn).mono ?_;rintro e w1 ⟨rfl,Ba⟩;obtain⟨Ca,Fa,Za⟩:=bcell Ba;(try simp only[szs] at Za);have Bb:=far2;obtain⟨Cb,Fb,Zb⟩:=bcell Bb;(try simp only[szs] at Zb);try (first|obtain⟨Ya,Yb,Yc,Yd⟩:=lts4 Zb|obtain⟨Ya,Yb,Yc⟩:=lts3 Zb|obtain⟨Ya,Yb⟩:=lts2 Zb|have Ya:=lts1 Zb);have hb9:=Ba)|(go_at_call 68;refine(impl_inside _ _ _ _).mono ?_;rintro e w' ⟨rfl,rfl⟩))
      go_ret
      exact⟨ret_int (by simp[portAt,HEN.out,hi]),bel⟩
    · go_wp2_with (first|(go_at_call 51;refine(impl_NodeCount m.g _).mono ?_;rintro e w1 ⟨rfl,Ba⟩;obtain⟨Ca,Fa,Za⟩:=bcell Ba;(try simp only[szs] at Za);have Bb:=far2;obtain⟨Cb,Fb,Zb⟩:=bcell Bb;(try simp only[szs] at Zb);try (first|obtain⟨Ya,Yb,Yc,Yd⟩:=lts4 Zb|obtain⟨Ya,Yb,Yc⟩:=lts3 Zb|obtain⟨Ya,Yb⟩:=lts2 Zb|have Ya:=lts1 Zb);have hb9:=Ba)|(go_at_call 99;refine(impl_MeshOk m _ _ _ (by exact Kd.C_below hr bel) hn).mono ?_;rintro e w1 ⟨rfl,Ba⟩;obtain⟨Ca,Fa,Za⟩:=bcell Ba;(try simp only[szs] at Za);have Bb:=far2;obtain⟨Cb,Fb,Zb⟩:=bcell Bb;(try simp only[szs] at Zb);try (first|obtain⟨Ya,Yb,Yc,Yd⟩:=lts4 Zb|obtain⟨Ya,Yb,Yc⟩:=lts3 Zb|obtain⟨Ya,Yb⟩:=lts2 Zb|have Ya:=lts1 Zb);have hb9:=Ba)|(go_at_call 68;refine(impl_inside _ _ _ _).mono ?_;rintro e w' ⟨rfl,rfl⟩))
      go_ret
      exact⟨ret_int (by rw[portAt_eq (sized_iff.2 ⟨hm,HS.out⟩) ha hb,HEN.out,if_pos hi]),bel⟩
  · have e1:((t.length:Int) != nodeCount m.g*nodeCount m.g)=true:=bne_iff_ne.2 hs
    have HS:=Lib.hid hs
    clear hs
    go_wp2_with (first|(go_at_call 51;refine(impl_NodeCount m.g _).mono ?_;rintro e w1 ⟨rfl,Ba⟩;obtain⟨Ca,Fa,Za⟩:=bcell Ba;(try simp only[szs] at Za);have Bb:=far2;obtain⟨Cb,Fb,Zb⟩:=bcell Bb;(try simp only[szs] at Zb);try (first|obtain⟨Ya,Yb,Yc,Yd⟩:=lts4 Zb|obtain⟨Ya,Yb,Yc⟩:=lts3 Zb|obtain⟨Ya,Yb⟩:=lts2 Zb|have Ya:=lts1 Zb);have hb9:=Ba)|(go_at_call 99;refine(impl_MeshOk m _ _ _ (by exact Kd.C_below hr bel) hn).mono ?_;rintro e w1 ⟨rfl,Ba⟩;obtain⟨Ca,Fa,Za⟩:=bcell Ba;(try simp only[szs] at Za);have Bb:=far2;obtain⟨Cb,Fb,Zb⟩:=bcell Bb;(try simp only[szs] at Zb);try (first|obtain⟨Ya,Yb,Yc,Yd⟩:=lts4 Zb|obtain⟨Ya,Yb,Yc⟩:=lts3 Zb|obtain⟨Ya,Yb⟩:=lts2 Zb|have Ya:=lts1 Zb);have hb9:=Ba)|(go_at_call 68;refine(impl_inside _ _ _ _).mono ?_;rintro e w' ⟨rfl,rfl⟩))
    go_ret
    exact⟨ret_int (by simp[portAt,sized,HS.out]),bel⟩
end Go.Proofs.YtodbglncccgdbaaGreat
