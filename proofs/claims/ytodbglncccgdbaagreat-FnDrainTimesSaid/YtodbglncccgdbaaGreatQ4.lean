/- Lemmas for laws of this seat, for all inputs: Lo Tx. -/
import Derived.Test.YtodbglncccgdbaaGreatQ3
import Derived.RegionTactic
set_option linter.unusedVariables false
set_option linter.unusedSimpArgs false
namespace Go.Proofs.YtodbglncccgdbaaGreat
open Go.RowKit Go.Proofs.YtodbglncccgdbaaGreatW.PrintWords
inductive LK where
  | quiet
  | lit
  | chain
deriving DecidableEq
def LoOp (P:Program) (o:Oper) (a:Act) (w:World) (post:Value→World→Prop):Prop:=
  match (execOp a.eval o).run P w with
  | .ok (.value v) w'=>post v w'
  | .ok (.enter f args) w'=>Calls P f args w' fun e w''=>∃ v,e=.returned v∧post v w''
  | .ok .skip w'=>o.dst=none∧post undef w'
  | _=>False
theorem LoOp.wp {P:Program} {o:Oper} {a:Act} {w:World} {post:Value→World→Prop} (h:LoOp P o a w post) {K:Act→World→Prop} {Q:Exit→Act→World→Prop} (hK:∀ v w',post v w'→K (a.put o.dst v) w'):Oper.wp P o a w K Q:=by
  unfold LoOp at h
  unfold Oper.wp
  generalize (execOp a.eval o).run P w=r at *
  cases r with
  | ok n w'=>
    cases n <;> simp only[Oper.upon] at h ⊢
    case value v=>exact hK _ _ h
    case skip=>
      have h2:=hK _ _ h.2
      rw[h.1] at h2 ⊢
      exact h2
    case enter f args=>
      refine Calls.mono h fun e w'' he=>?_
      obtain⟨v,rfl,hp⟩:=he
      exact hK _ _ hp
  | halt x w'=>exact h.elim
section
variable (P:Program) (ops:Array Oper) (C:World→Prop) (B:Nat) (le:Nat→TypeId) (vq:Nat→Value) (Z:Act→(World→Prop)→Prop)
def wpLo:List (Nat × LK)→Act→(World→Prop)→Prop
  | [],a,F=>Z a F
  | (i,.quiet)::rest,a,F=>∃ o,ops[i]?=some o∧Region.wanted o (yielded ops a.tmps)=true∧(∀ w,C w→(execOp a.eval o).run P w=.ok (.value (vq i)) w)∧wpLo rest (a.put o.dst (vq i)) F
  | (i,.lit)::rest,a,F=>∃ o,ops[i]?=some o∧Region.wanted o (yielded ops a.tmps)=true∧(∀ w,(execOp a.eval o).run P w=.ok (.value (.slice (some ⟨w.heap.size,0,none⟩) 0 0)) (w.alloc (.cells #[] (le i))))∧∀ g,B≤g→wpLo rest (a.put o.dst (.slice (some ⟨g,0,none⟩) 0 0)) (fun w=>F w∧Lit (le i) w g)
  | (i,.chain)::rest,a,F=>∃ o,ops[i]?=some o∧Region.wanted o (yielded ops a.tmps)=true∧∃ (ι:Type) (y0:ι) (val:ι→Value) (G:ι→World→Prop),(∀ y w w',G y w→Stp w w'→G y w')∧(∀ w,F w→C w→LoOp P o a w (fun v w'=>∃ y,v=val y∧Stp w w'∧G y w'))∧∀ y,wpLo rest (a.put o.dst (val y)) (fun w=>F w∧G y w)
end
section
variable {P:Program} {ops:Array Oper} {C:World→Prop} {B:Nat} {le:Nat→TypeId} {vq:Nat→Value} {Z:Act→(World→Prop)→Prop}
theorem wpLo_q {i:Nat} {rest:List (Nat × LK)} {a:Act} {F:World→Prop} {o:Oper} (d:Option Tmp) (ho:ops[i]?=some o) (hd:o.dst=d) (hw:Region.wanted o (yielded ops a.tmps)=true) (hr:∀ w,C w→(execOp a.eval o).run P w=.ok (.value (vq i)) w) (h:wpLo P ops C B le vq Z rest (a.put d (vq i)) F):wpLo P ops C B le vq Z ((i,.quiet)::rest) a F:=⟨o,ho,hw,hr,hd ▸ h⟩
theorem wpLo_l {i:Nat} {rest:List (Nat × LK)} {a:Act} {F:World→Prop} {o:Oper} (d:Option Tmp) (ho:ops[i]?=some o) (hd:o.dst=d) (hw:Region.wanted o (yielded ops a.tmps)=true) (hr:∀ w,(execOp a.eval o).run P w=.ok (.value (.slice (some ⟨w.heap.size,0,none⟩) 0 0)) (w.alloc (.cells #[] (le i)))) (h:∀ g,B≤g→wpLo P ops C B le vq Z rest (a.put d (.slice (some ⟨g,0,none⟩) 0 0)) (fun w=>F w∧Lit (le i) w g)):wpLo P ops C B le vq Z ((i,.lit)::rest) a F:=⟨o,ho,hw,hr,hd ▸ h⟩
theorem wpLo_c {i:Nat} {rest:List (Nat × LK)} {a:Act} {F:World→Prop} {o:Oper} (d:Option Tmp) (ho:ops[i]?=some o) (hd:o.dst=d) (hw:Region.wanted o (yielded ops a.tmps)=true) {ι:Type} (y0:ι) (val:ι→Value) (G:ι→World→Prop) (hG:∀ y w w',G y w→Stp w w'→G y w') (hr:∀ w,F w→C w→LoOp P o a w (fun v w'=>∃ y,v=val y∧Stp w w'∧G y w')) (h:∀ y,wpLo P ops C B le vq Z rest (a.put d (val y)) (fun w=>F w∧G y w)):wpLo P ops C B le vq Z ((i,.chain)::rest) a F:=⟨o,ho,hw,ι,y0,val,G,hG,hr,hd ▸ h⟩
theorem wpLo_z {a:Act} {F:World→Prop} (h:Z a F):wpLo P ops C B le vq Z [] a F:=h
theorem wpLo_mono (hZ:∀ a F F',(∀ w,F' w→F w)→Z a F→Z a F'):∀ (l:List (Nat × LK)) (a:Act) (F F':World→Prop),(∀ w,F' w→F w)→wpLo P ops C B le vq Z l a F→wpLo P ops C B le vq Z l a F':=by
  intro l
  induction l with
  | nil=>intro a F F' h hw;exact hZ a F F' h hw
  | cons x rest ih=>
    intro a F F' h hw
    obtain⟨i,k⟩:=x
    cases k with
    | quiet=>
      obtain⟨o,h1,h2,h3,h4⟩:=hw
      exact⟨o,h1,h2,h3,ih _ _ _ h h4⟩
    | lit=>
      obtain⟨o,h1,h2,h3,h4⟩:=hw
      exact⟨o,h1,h2,h3,fun g hg=>ih _ _ _ (fun w hw=>⟨h w hw.1,hw.2⟩) (h4 g hg)⟩
    | chain=>
      obtain⟨o,h1,h2,ι,y0,val,G,h3,h4,h5⟩:=hw
      exact⟨o,h1,h2,ι,y0,val,G,h3,fun w hF hC=>h4 w (h w hF) hC,fun y=>ih _ _ _ (fun w hw=>⟨h w hw.1,hw.2⟩) (h5 y)⟩
theorem LoOp_put {o:Oper} {a:Act} {w:World} {post:Value→World→Prop} (hs:∀ cs b,o.op≠.select cs b) (d:Option Tmp) (u:Value) (h3:∀ t,d=some t→t ∉ o.looksAt ops):LoOp P o (a.put d u) w post↔LoOp P o a w post:=by
  unfold LoOp
  rw[execOp_put o hs a d u h3]
theorem wpLo_move (hZ:∀ a F F',(∀ w,F' w→F w)→Z a F→Z a F') (hsel:∀ (j:Nat) (o:Oper) cs b,ops[j]?=some o→o.op≠.select cs b) {b:Nat} {k:LK} {ob:Oper} (hob:ops[b]?=some ob) (hk:k≠.chain) (l2:List (Nat × LK)) :
  ∀ (l1:List (Nat × LK)) (a:Act) (F:World→Prop),(∀ x∈l1,∀ ox,ops[x.1]?=some ox→ob.apart ops ox=true)→wpLo P ops C B le vq Z (l1++(b,k)::l2) a F→wpLo P ops C B le vq Z ((b,k)::(l1++l2)) a F:=by
 intro l1
 induction l1 with
 | nil=>intro a F _ h;exact h
 | cons x l1 ih=>
  intro a F hap h
  obtain⟨i,ki⟩:=x
  have hapr:∀ y∈l1,∀ oy,ops[y.1]?=some oy→ob.apart ops oy=true:=fun y hy=>hap y (by simp[hy])
  have core:∀ ox,ops[i]?=some ox→(∀ d,ob.dst=some d→d ∉ ox.looksAt ops)∧(∀ d,ob.dst=some d→ox.dst≠some d)∧(∀ d,ox.dst=some d→d ∉ ob.looksAt ops):=fun ox hox=>Oper.apart_spec (hap (i,ki) (by simp) ox hox)
  cases k with
  | chain=>exact absurd rfl hk
  | quiet=>
   cases ki with
   | quiet=>
    obtain⟨ox,h1,h2,h3,h4⟩:=h
    obtain⟨c1,c2,c3⟩:=core ox h1
    obtain⟨ob',e1,e2,e3,e4⟩:=ih _ _ hapr h4
    obtain rfl:=Option.some.inj (hob.symm.trans e1)
    refine⟨_,hob,by rw[←e2];exact(wanted_put _ a ox.dst (vq i) c3).symm,fun w hC=>by rw[←execOp_put (ops:=ops) _ (hsel b _ · · hob) a ox.dst (vq i) c3];exact e3 w hC,ox,h1,by rw[wanted_put ox a _ _ c1];exact h2,fun w hC=>by rw[execOp_put (ops:=ops) ox (hsel i ox · · h1) a _ _ c1];exact h3 w hC,?_⟩
    rw[Act.put_comm a _ _ c2]
    exact e4
   | lit=>
    obtain⟨ox,h1,h2,h3,h4⟩:=h
    obtain⟨c1,c2,c3⟩:=core ox h1
    obtain⟨ob',e1,e2,e3,e4⟩:=ih _ _ hapr (h4 B (Nat.le_refl _))
    obtain rfl:=Option.some.inj (hob.symm.trans e1)
    refine⟨_,hob,by rw[←e2];exact(wanted_put _ a ox.dst _ c3).symm,fun w hC=>by rw[←execOp_put (ops:=ops) _ (hsel b _ · · hob) a ox.dst _ c3];exact e3 w hC,ox,h1,by rw[wanted_put ox a _ _ c1];exact h2,fun w=>by rw[execOp_put (ops:=ops) ox (hsel i ox · · h1) a _ _ c1];exact h3 w,fun g hg=>?_⟩
    obtain⟨ob'',f1,f2,f3,f4⟩:=ih _ _ hapr (h4 g hg)
    obtain rfl:=Option.some.inj (hob.symm.trans f1)
    rw[Act.put_comm a _ _ c2]
    exact f4
   | chain=>
    obtain⟨ox,h1,h2,ι,y0,val,G,h3,h4,h5⟩:=h
    obtain⟨c1,c2,c3⟩:=core ox h1
    obtain⟨ob',e1,e2,e3,e4⟩:=ih _ _ hapr (h5 y0)
    obtain rfl:=Option.some.inj (hob.symm.trans e1)
    refine⟨_,hob,by rw[←e2];exact(wanted_put _ a ox.dst _ c3).symm,fun w hC=>by rw[←execOp_put (ops:=ops) _ (hsel b _ · · hob) a ox.dst _ c3];exact e3 w hC,ox,h1,by rw[wanted_put ox a _ _ c1];exact h2,ι,y0,val,G,h3,fun w hF hC=>(LoOp_put (hsel i ox · · h1) _ _ c1).2 (h4 w hF hC),fun y=>?_⟩
    obtain⟨ob'',f1,f2,f3,f4⟩:=ih _ _ hapr (h5 y)
    obtain rfl:=Option.some.inj (hob.symm.trans f1)
    rw[Act.put_comm a _ _ c2]
    exact f4
  | lit=>
   cases ki with
   | quiet=>
    obtain⟨ox,h1,h2,h3,h4⟩:=h
    obtain⟨c1,c2,c3⟩:=core ox h1
    obtain⟨ob',e1,e2,e3,e4⟩:=ih _ _ hapr h4
    obtain rfl:=Option.some.inj (hob.symm.trans e1)
    refine⟨_,hob,by rw[←e2];exact(wanted_put _ a ox.dst _ c3).symm,fun w=>by rw[←execOp_put (ops:=ops) _ (hsel b _ · · hob) a ox.dst _ c3];exact e3 w,fun gb hgb=>⟨ox,h1,by rw[wanted_put ox a _ _ c1];exact h2,fun w hC=>by rw[execOp_put (ops:=ops) ox (hsel i ox · · h1) a _ _ c1];exact h3 w hC,?_⟩⟩
    rw[Act.put_comm a _ _ c2]
    exact e4 gb hgb
   | lit=>
    obtain⟨ox,h1,h2,h3,h4⟩:=h
    obtain⟨c1,c2,c3⟩:=core ox h1
    obtain⟨ob',e1,e2,e3,e4⟩:=ih _ _ hapr (h4 B (Nat.le_refl _))
    obtain rfl:=Option.some.inj (hob.symm.trans e1)
    refine⟨_,hob,by rw[←e2];exact(wanted_put _ a ox.dst _ c3).symm,fun w=>by rw[←execOp_put (ops:=ops) _ (hsel b _ · · hob) a ox.dst _ c3];exact e3 w,fun gb hgb=>⟨ox,h1,by rw[wanted_put ox a _ _ c1];exact h2,fun w=>by rw[execOp_put (ops:=ops) ox (hsel i ox · · h1) a _ _ c1];exact h3 w,fun g hg=>?_⟩⟩
    obtain⟨ob'',f1,f2,f3,f4⟩:=ih _ _ hapr (h4 g hg)
    obtain rfl:=Option.some.inj (hob.symm.trans f1)
    rw[Act.put_comm a _ _ c2]
    exact wpLo_mono hZ _ _ _ _ (fun w hw=>⟨⟨hw.1.1,hw.2⟩,hw.1.2⟩) (f4 gb hgb)
   | chain=>
    obtain⟨ox,h1,h2,ι,y0,val,G,h3,h4,h5⟩:=h
    obtain⟨c1,c2,c3⟩:=core ox h1
    obtain⟨ob',e1,e2,e3,e4⟩:=ih _ _ hapr (h5 y0)
    obtain rfl:=Option.some.inj (hob.symm.trans e1)
    refine⟨_,hob,by rw[←e2];exact(wanted_put _ a ox.dst _ c3).symm,fun w=>by rw[←execOp_put (ops:=ops) _ (hsel b _ · · hob) a ox.dst _ c3];exact e3 w,fun gb hgb=>⟨ox,h1,by rw[wanted_put ox a _ _ c1];exact h2,ι,y0,val,G,h3,fun w hF hC=>(LoOp_put (hsel i ox · · h1) _ _ c1).2 (h4 w hF.1 hC),fun y=>?_⟩⟩
    obtain⟨ob'',f1,f2,f3,f4⟩:=ih _ _ hapr (h5 y)
    obtain rfl:=Option.some.inj (hob.symm.trans f1)
    rw[Act.put_comm a _ _ c2]
    exact wpLo_mono hZ _ _ _ _ (fun w hw=>⟨⟨hw.1.1,hw.2⟩,hw.1.2⟩) (f4 gb hgb)

def anc (ops:Array Oper):Nat→Nat→List Nat
  | 0,_=>[]
  | k+1,i=>match ops[i]? with
    | none=>[]
    | some o=>o.after.toList.flatMap fun e=>if Region.binds .any e=true then e.on::anc ops k e.on else []
def Down (ops:Array Oper) (listed:Array Bool):Prop:=∀ j oj,ops[j]?=some oj→listed.getD j false=true→∀ e∈oj.after,Region.binds .any e=true→listed.getD e.on false=true
theorem anc_listed {listed:Array Bool} (hd:Down ops listed):∀ (k i:Nat),(∀ o,ops[i]?=some o→∀ e∈o.after,Region.binds .any e=true→listed.getD e.on false=true)→∀ y∈anc ops k i,listed.getD y false=true:=by
  intro k
  induction k with
  | zero=>intro i _ y hy;simp[anc] at hy
  | succ k ih=>
    intro i h y hy
    unfold anc at hy
    cases ho:ops[i]? with
    | none=>rw[ho] at hy;simp at hy
    | some o=>
      rw[ho] at hy
      simp only[List.mem_flatMap] at hy
      obtain⟨e,he,hy⟩:=hy
      have he':e∈o.after:=by simpa using he
      split at hy
      · rename_i hb
        have h1:=h o ho e he' hb
        rcases List.mem_cons.1 hy with rfl|hy
        · exact h1
        · exact ih e.on (fun o' ho' e' he'' hb'=>hd e.on o' ho' h1 e' he'' hb') y hy
      · simp at hy
def goodLo (ops:Array Oper):List Nat→List (Nat × LK)→Bool
  | _,[]=>true
  | run,(j,.chain)::rest=>run.all (fun y=>(anc ops 3 j).contains y) && goodLo ops [j] rest
  | run,(j,_)::rest=>goodLo ops (j::run) rest
theorem goodLo_mono:∀ (l:List (Nat × LK)) (run run':List Nat),(∀ y∈run',y∈run)→goodLo ops run l=true→goodLo ops run' l=true:=by
  intro l
  induction l with
  | nil=>intro _ _ _ _;rfl
  | cons x l ih=>
    intro run run' h hg
    obtain⟨j,k⟩:=x
    cases k with
    | chain=>
      simp only[goodLo,Bool.and_eq_true,List.all_eq_true] at hg ⊢
      exact⟨fun y hy=>hg.1 y (h y hy),hg.2⟩
    | quiet=>exact ih _ _ (fun y hy=>by rcases List.mem_cons.1 hy with rfl|hy;exact List.mem_cons_self;exact List.mem_cons_of_mem _ (h y hy)) hg
    | lit=>exact ih _ _ (fun y hy=>by rcases List.mem_cons.1 hy with rfl|hy;exact List.mem_cons_self;exact List.mem_cons_of_mem _ (h y hy)) hg
theorem goodLo_tail {x:Nat × LK} {l:List (Nat × LK)} (h:goodLo ops [] (x::l)=true):goodLo ops [] l=true:=by
  obtain⟨j,k⟩:=x
  cases k with
  | chain=>
    simp only[goodLo,Bool.and_eq_true] at h
    exact goodLo_mono _ _ _ (fun y hy=>by simp at hy) h.2
  | quiet=>exact goodLo_mono _ _ _ (fun y hy=>by simp at hy) h
  | lit=>exact goodLo_mono _ _ _ (fun y hy=>by simp at hy) h
theorem goodLo_drop {b:Nat} {k:LK} (hk:k≠.chain) (l2:List (Nat × LK)):∀ (l1:List (Nat × LK)) (run:List Nat),goodLo ops run (l1++(b,k)::l2)=true→goodLo ops run (l1++l2)=true:=by
  intro l1
  induction l1 with
  | nil=>
    intro run h
    cases k with
    | chain=>exact absurd rfl hk
    | quiet=>exact goodLo_mono _ _ _ (fun y hy=>List.mem_cons_of_mem _ hy) h
    | lit=>exact goodLo_mono _ _ _ (fun y hy=>List.mem_cons_of_mem _ hy) h
  | cons x l1 ih=>
    intro run h
    obtain⟨j,kj⟩:=x
    cases kj with
    | chain=>
      simp only[List.cons_append,goodLo,Bool.and_eq_true] at h ⊢
      exact⟨h.1,ih _ h.2⟩
    | quiet=>exact ih _ h
    | lit=>exact ih _ h
theorem goodLo_waits {j:Nat}:∀ (l1 l2:List (Nat × LK)) (run:List Nat),run≠[]→goodLo ops run (l1++(j,.chain)::l2)=true→∃ y,(y∈run∨y∈l1.map (·.1))∧y∈anc ops 3 j:=by
  intro l1
  induction l1 with
  | nil=>
    intro l2 run hr h
    simp only[List.nil_append,goodLo,Bool.and_eq_true,List.all_eq_true] at h
    cases run with
    | nil=>exact absurd rfl hr
    | cons y r=>exact⟨y,.inl (by simp),by simpa using h.1 y (by simp)⟩
  | cons x l1 ih=>
    intro l2 run hr h
    obtain⟨i,k⟩:=x
    cases k with
    | chain=>
      simp only[List.cons_append,goodLo,Bool.and_eq_true] at h
      obtain⟨y,h1,h2⟩:=ih l2 [i] (by simp) h.2
      refine⟨y,.inr ?_,h2⟩
      rcases h1 with h1|h1
      · simp only[List.mem_singleton] at h1;subst h1;simp
      · simp only[List.map_cons,List.mem_cons];exact .inr h1
    | quiet=>
      obtain⟨y,h1,h2⟩:=ih l2 (i::run) (by simp) h
      refine⟨y,?_,h2⟩
      rcases h1 with h1|h1
      · rcases List.mem_cons.1 h1 with rfl|h1
        · exact .inr (by simp)
        · exact .inl h1
      · exact .inr (by simp only[List.map_cons,List.mem_cons];exact .inr h1)
    | lit=>
      obtain⟨y,h1,h2⟩:=ih l2 (i::run) (by simp) h
      refine⟨y,?_,h2⟩
      rcases h1 with h1|h1
      · rcases List.mem_cons.1 h1 with rfl|h1
        · exact .inr (by simp)
        · exact .inl h1
      · exact .inr (by simp only[List.map_cons,List.mem_cons];exact .inr h1)
def pairLo (ops:Array Oper) (x b:Nat × LK):Bool:=decide (b.2=.chain) || (anc ops 3 b.1).contains x.1 || (match ops[b.1]?,ops[x.1]? with|some ob,some ox=>ob.apart ops ox|_,_=>false)
def pairsLo (ops:Array Oper):List (Nat × LK)→Bool
  | []=>true
  | x::r=>r.all (pairLo ops x) && pairsLo ops r
theorem pairsLo_drop {x:Nat × LK} (l2:List (Nat × LK)):∀ l1:List (Nat × LK),pairsLo ops (l1++x::l2)=true→pairsLo ops (l1++l2)=true:=by
  intro l1
  induction l1 with
  | nil=>intro h;simp only[List.nil_append,pairsLo,Bool.and_eq_true] at h ⊢;exact h.2
  | cons y l1 ih=>
    intro h
    simp only[List.cons_append,pairsLo,Bool.and_eq_true,List.all_eq_true] at h ⊢
    refine⟨fun z hz=>h.1 z ?_,ih h.2⟩
    rcases List.mem_append.1 hz with hz|hz
    · exact List.mem_append_left _ hz
    · exact List.mem_append_right _ (List.mem_cons_of_mem _ hz)
theorem pairsLo_at {x:Nat × LK} (l2:List (Nat × LK)):∀ l1:List (Nat × LK),pairsLo ops (l1++x::l2)=true→∀ y∈l1,pairLo ops y x=true:=by
  intro l1
  induction l1 with
  | nil=>intro _ y hy;simp at hy
  | cons z l1 ih=>
    intro h y hy
    simp only[List.cons_append,pairsLo,Bool.and_eq_true,List.all_eq_true] at h
    rcases List.mem_cons.1 hy with rfl|hy
    · exact h.1 x (by simp)
    · exact ih h.2 y hy
structure LoInv (ops:Array Oper) (m:Nat) (l:List (Nat × LK)) (listed:Array Bool):Prop where
  size:listed.size=ops.size
  mem:∀ i,i<m→(listed.getD i true=false↔i∈l.map (·.1))
  lt:∀ x∈l,x.1<m
  last:listed.getD m true=false
  down:Down ops listed
  sorted:l.Pairwise (fun x y=>x.1<y.1)
theorem getD_two {listed:Array Bool} {i:Nat} (hi:i<listed.size):listed.getD i true=false↔¬ listed.getD i false=true:=by
  simp[hi]
theorem LoInv.next {m i:Nat} {k:LK} {l1 l2:List (Nat × LK)} {listed:Array Bool} (h:LoInv ops m (l1++(i,k)::l2) listed) (hr:i∈Region.ready .any ops listed):LoInv ops m (l1++l2) (listed.setIfInBounds i true):=by
  obtain⟨h0,o,ho,hall⟩:=mem_ready.1 hr
  have him:i<m:=h.lt (i,k) (by simp)
  have hs:=h.sorted
  rw[List.pairwise_append,List.pairwise_cons] at hs
  obtain⟨s1,⟨s2,s3⟩,s4⟩:=hs
  refine⟨by simp[h.size],fun j hj=>?_,fun x hx=>h.lt x (by rcases List.mem_append.1 hx with hx|hx;exact List.mem_append_left _ hx;exact List.mem_append_right _ (List.mem_cons_of_mem _ hx)),?_,fun j oj hoj hl e he hb=>?_,?_⟩
  · by_cases e:i=j
    · subst e
      have hlt:i<listed.size:=by
        rcases Nat.lt_or_ge i listed.size with h1|h1
        · exact h1
        · simp[Array.getElem?_eq_none h1] at h0
      constructor
      · intro hf
        simp[hlt] at hf
      · intro hm
        exfalso
        rw[List.map_append,List.mem_append] at hm
        rcases hm with hm|hm
        · obtain⟨x,hx,e⟩:=List.mem_map.1 hm
          have:=s4 x hx (i,k) (by simp)
          simp only at this e
          omega
        · obtain⟨x,hx,e⟩:=List.mem_map.1 hm
          have:=s2 x hx
          simp only at this e
          omega
    · rw[getD_set_ne true e,h.mem j hj]
      simp only[List.map_append,List.map_cons,List.mem_append,List.mem_cons]
      constructor
      · rintro (h1|rfl|h1)
        · exact .inl h1
        · exact absurd rfl e
        · exact .inr h1
      · rintro (h1|h1)
        · exact .inl h1
        · exact .inr (.inr h1)
  · rw[getD_set_ne true (by omega)]
    exact h.last
  · by_cases e2:i=j
    · subst e2
      obtain rfl:=Option.some.inj (ho.symm.trans hoj)
      exact getD_set_true (hall e he hb)
    · rw[getD_set_ne false e2] at hl
      exact getD_set_true (h.down j oj hoj hl e he hb)
  · rw[List.pairwise_append]
    exact⟨s1,s3,fun x hx y hy=>s4 x hx y (List.mem_cons_of_mem _ hy)⟩
theorem lo_done {Q:Exit→Act→World→Prop} {listed:Array Bool} {a:Act} {w:World} (hr:Region.ready .any ops listed=[]) (h:Q .normal a w):∀ fuel,wpAny P .any ops Q fuel listed a w
  | 0=>⟨hr,h⟩
  | _+1=>⟨fun _=>h,by rw[hr];simp⟩
def lastLo (ops:Array Oper) (m:Nat):Bool:=match ops[m]? with
  | some om=>(List.range m).all fun k=>om.after.any fun e=>Region.binds .any e && decide (e.on=k)
  | none=>false
def backLo (ops:Array Oper):Bool:=(List.range ops.size).all fun i=>match ops[i]? with
  | some o=>o.after.all fun e=>!(Region.binds .any e) || decide (e.on<i)
  | none=>true
theorem back_at (hb:backLo ops=true) {i:Nat} {o:Oper} (ho:ops[i]?=some o):∀ e∈o.after,Region.binds .any e=true→e.on<i:=by
  intro e he hbe
  have hi:i<ops.size:=(Array.getElem?_eq_some_iff.1 ho).1
  simp only[backLo,List.all_eq_true,List.mem_range] at hb
  have:=hb i hi
  rw[ho] at this
  simp only at this
  rw[Array.all_eq_true_iff_forall_mem] at this
  have h2:=this e he
  rw[hbe] at h2
  simpa using h2
theorem lo_sound {Q:Exit→Act→World→Prop} {m:Nat} (hZ:∀ a F F',(∀ w,F' w→F w)→Z a F→Z a F') (hfin:∀ a F,Z a F→∀ w,F w→C w→∃ om,ops[m]?=some om∧Region.wanted om (yielded ops a.tmps)=true∧Oper.wp P om a w (fun a' w'=>Q .normal a' w') Q)
  (hns:Region.noSelect ops=true) (hsz:ops.size=m+1) (hlast:lastLo ops m=true) (hback:backLo ops=true) (hCB:∀ w,C w→B≤w.heap.size) (hCS:∀ w w',C w→Stp w w'→C w') :
  ∀ (fuel:Nat) (l:List (Nat × LK)) (listed:Array Bool) (a:Act) (w:World) (F:World→Prop),l.length+1≤fuel→LoInv ops m l listed→goodLo ops [] l=true→pairsLo ops l=true→(∀ w w',F w→Stp w w'→F w')→F w→C w→wpLo P ops C B le vq Z l a F→wpAny P .any ops Q fuel listed a w:=by
 intro fuel
 induction fuel with
 | zero=>intro l listed a w F h;omega
 | succ fuel ih=>
  intro l listed a w F hf hI hg hp hst hF hC hw
  have hsel:=Region.noSelect_spec hns
  refine⟨fun hr=>?_,fun i hi=>?_⟩
  ·exfalso
   cases l with
   | nil=>
    have hm:m∈Region.ready .any ops listed:=by
     have hms:m<ops.size:=by omega
     refine mem_ready.2 ⟨hI.last,ops[m],Array.getElem?_eq_getElem hms,fun e he hb=>?_⟩
     have hlt:=back_at hback (Array.getElem?_eq_getElem hms) e he hb
     have h1:=(hI.mem e.on hlt)
     rcases Bool.eq_false_or_eq_true (listed.getD e.on false) with h2|h2
     ·exact h2
     ·exfalso
      have:=h1.1 ((getD_two (by rw[hI.size];omega)).2 (by simp[h2]))
      simp at this
    rw[hr] at hm
    cases hm
   | cons x l=>
    obtain⟨j,k⟩:=x
    have hjm:j<m:=hI.lt (j,k) (by simp)
    have hj:j∈Region.ready .any ops listed:=by
     have hjs:j<ops.size:=by omega
     refine mem_ready.2 ⟨(hI.mem j hjm).2 (by simp),ops[j],Array.getElem?_eq_getElem hjs,fun e he hb=>?_⟩
     have hlt:=back_at hback (Array.getElem?_eq_getElem hjs) e he hb
     have h1:=(hI.mem e.on (by omega))
     rcases Bool.eq_false_or_eq_true (listed.getD e.on false) with h2|h2
     ·exact h2
     ·exfalso
      have h3:=h1.1 ((getD_two (by rw[hI.size];omega)).2 (by simp[h2]))
      obtain⟨y,hy,e2⟩:=List.mem_map.1 h3
      rcases List.mem_cons.1 hy with rfl|hy
      ·simp only at e2;omega
      ·have:=(List.pairwise_cons.1 hI.sorted).1 y hy
       simp only at this e2
       omega
    rw[hr] at hj
    cases hj
  ·obtain⟨h0,o,ho,hall⟩:=mem_ready.1 hi
   have hil:∀ y,listed.getD y false=true→y<m→y ∉ l.map (·.1):=fun y hy hym hmem=>by
    have h1:=(hI.mem y hym).2 hmem
    have h2:y<listed.size:=by rw[hI.size];omega
    rw[getD_two h2] at h1
    exact h1 hy
   have his:i<ops.size:=(Array.getElem?_eq_some_iff.1 ho).1
   rcases Nat.lt_or_ge i m with him|him
   ·-- one of l
    have hmem:=(hI.mem i him).1 h0
    obtain⟨x,hx,ex⟩:=List.mem_map.1 hmem
    obtain⟨l1,l2,rfl⟩:=List.append_of_mem hx
    obtain⟨i',k⟩:=x
    simp only at ex
    subst ex
    have hanc:∀ y∈anc ops 3 i',listed.getD y false=true:=anc_listed hI.down 3 i' (fun o' ho' e he hb=>by obtain rfl:=Option.some.inj (ho.symm.trans ho');exact hall e he hb)
    have hI2:=hI.next hi
    have hp2:=pairsLo_drop _ l1 hp
    have hlen:(l1++l2).length+1≤fuel:=by simp only[List.length_append,List.length_cons] at hf ⊢;omega
    cases k with
    | chain=>
     have hl1:l1=[]:=by
      cases l1 with
      | nil=>rfl
      | cons z l1=>
       exfalso
       obtain⟨jz,kz⟩:=z
       have:∃ y,(y∈[jz]∨y∈l1.map (·.1))∧y∈anc ops 3 i':=by
        cases kz with
        | chain=>
         simp only[List.cons_append,goodLo,Bool.and_eq_true] at hg
         exact goodLo_waits l1 l2 [jz] (by simp) hg.2
        | quiet=>exact goodLo_waits l1 l2 [jz] (by simp) hg
        | lit=>exact goodLo_waits l1 l2 [jz] (by simp) hg
       obtain⟨y,hy,ha⟩:=this
       have hmemy:y∈((jz,kz)::l1++(i',LK.chain)::l2).map (·.1):=by
        rcases hy with hy|hy
        ·simp only[List.mem_singleton] at hy;subst hy;simp
        ·simp only[List.cons_append,List.map_cons,List.map_append,List.mem_cons,List.mem_append];exact .inr (.inl hy)
       obtain⟨z,hz,ez⟩:=List.mem_map.1 hmemy
       exact hil y (hanc y ha) (by have:=hI.lt z hz;omega) hmemy
     subst hl1
     obtain⟨o',e1,e2,ι,y0,val,G,h3,h4,h5⟩:=hw
     obtain rfl:=Option.some.inj (ho.symm.trans e1)
     unfold wpOp
     simp only[ho,e2,if_true]
     refine .inl ((h4 w hF hC).wp (fun v w' hpost=>?_))
     obtain⟨y,rfl,hS,hG⟩:=hpost
     exact ih l2 _ _ w' _ (by simpa using hlen) hI2 (goodLo_tail hg) hp2 (fun w1 w2 h12 hs=>⟨hst _ _ h12.1 hs,h3 _ _ _ h12.2 hs⟩) ⟨hst _ _ hF hS,hG⟩ (hCS _ _ hC hS) (h5 y)
    | quiet=>
     have hap:∀ x∈l1,∀ ox,ops[x.1]?=some ox→o.apart ops ox=true:=fun x hx ox hox=>by
      have h1:=pairsLo_at l2 l1 hp x hx
      unfold pairLo at h1
      rw[ho,hox] at h1
      simp only[Bool.or_eq_true,decide_eq_true_eq] at h1
      rcases h1 with (h1|h1)|h1
      ·cases h1
      ·exfalso
       exact hil x.1 (hanc x.1 (by simpa using h1)) (hI.lt x (List.mem_append_left _ hx)) (List.mem_map_of_mem (List.mem_append_left _ hx))
      ·exact h1
     obtain⟨o',e1,e2,e3,e4⟩:=wpLo_move hZ hsel ho (by decide) l2 l1 a F hap hw
     obtain rfl:=Option.some.inj (ho.symm.trans e1)
     unfold wpOp
     simp only[ho,e2,if_true]
     refine .inl ?_
     unfold Oper.wp
     rw[e3 w hC]
     exact ih _ _ _ w F hlen hI2 (goodLo_drop (by decide) l2 l1 [] hg) hp2 hst hF hC e4
    | lit=>
     have hap:∀ x∈l1,∀ ox,ops[x.1]?=some ox→o.apart ops ox=true:=fun x hx ox hox=>by
      have h1:=pairsLo_at l2 l1 hp x hx
      unfold pairLo at h1
      rw[ho,hox] at h1
      simp only[Bool.or_eq_true,decide_eq_true_eq] at h1
      rcases h1 with (h1|h1)|h1
      ·cases h1
      ·exfalso
       exact hil x.1 (hanc x.1 (by simpa using h1)) (hI.lt x (List.mem_append_left _ hx)) (List.mem_map_of_mem (List.mem_append_left _ hx))
      ·exact h1
     obtain⟨o',e1,e2,e3,e4⟩:=wpLo_move hZ hsel ho (by decide) l2 l1 a F hap hw
     obtain rfl:=Option.some.inj (ho.symm.trans e1)
     unfold wpOp
     simp only[ho,e2,if_true]
     refine .inl ?_
     unfold Oper.wp
     rw[e3 w]
     have hS:Stp w (w.alloc (.cells #[] (le i'))):=⟨bw_alloc _ (bw_refl w)⟩
     exact ih _ _ _ _ _ hlen hI2 (goodLo_drop (by decide) l2 l1 [] hg) hp2 (fun w1 w2 h12 hs=>⟨hst _ _ h12.1 hs,lit_stp hs h12.2⟩) ⟨hst _ _ hF hS,lit_new rfl⟩ (hCS _ _ hC hS) (e4 w.heap.size (hCB w hC))
   ·-- the last
    obtain rfl:i=m:=by omega
    have hl:l=[]:=by
     cases l with
     | nil=>rfl
     | cons x l=>
      exfalso
      have hx:=hI.lt x (by simp)
      unfold lastLo at hlast
      rw[ho] at hlast
      simp only[List.all_eq_true,List.mem_range] at hlast
      have h1:=hlast x.1 hx
      obtain⟨ei,hei,h2⟩:=Array.any_eq_true.1 h1
      rw[Bool.and_eq_true,decide_eq_true_eq] at h2
      exact hil x.1 (by rw[←h2.2];exact hall _ (Array.getElem_mem hei) h2.1) hx (by simp)
    subst hl
    obtain⟨om,e1,e2,e3⟩:=hfin a F hw w hF hC
    obtain rfl:=Option.some.inj (ho.symm.trans e1)
    unfold wpOp
    simp only[ho,e2,if_true]
    refine .inl (Oper.wp_mono (fun a' w' hq=>lo_done ?_ hq fuel) e3)
    rw[List.eq_nil_iff_forall_not_mem]
    intro j hj
    obtain⟨h1,oj,hoj,_⟩:=mem_ready.1 hj
    have hjs:j<ops.size:=(Array.getElem?_eq_some_iff.1 hoj).1
    by_cases e:i=j
    ·subst e
     have:i<listed.size:=by rw[hI.size];exact his
     simp[this] at h1
    ·rw[getD_set_ne true e] at h1
     have:=(hI.mem j (by omega)).1 h1
     simp at this
def lastZ (P:Program) (ops:Array Oper) (C:World→Prop) (Q:Exit→Act→World→Prop) (m:Nat) (a:Act) (F:World→Prop):Prop:=∀ w,F w→C w→∃ om,ops[m]?=some om∧Region.wanted om (yielded ops a.tmps)=true∧Oper.wp P om a w (fun a' w'=>Q .normal a' w') Q
theorem wp_region_lo {Q:Exit→Act→World→Prop} {id:Nat} {a:Act} {w:World} (B:Nat) (C:World→Prop) (le:Nat→TypeId) (vq:Nat→Value) (m:Nat) (l:List (Nat × LK)) (hm:P.follows .mixedOrders=true)
    (hns:Region.noSelect ops=true) (hsz:ops.size=m+1) (hl:l.map (·.1)=List.range m) (hlast:lastLo ops m=true) (hback:backLo ops=true) (hg:goodLo ops [] l=true) (hp:pairsLo ops l=true) (hCB:∀ w,C w→B≤w.heap.size) (hCS:∀ w w',C w→Stp w w'→C w') (hC:C w.drew)
    (h:wpLo P ops C B le vq (lastZ P ops C Q m) l a (fun _=>True)):(Code.region id ops true).wp P Q a w:=by
  refine wp_region_any hm ?_
  have hlen:l.length=m:=by have:=congrArg List.length hl;simpa using this
  refine lo_sound (P:=P) (C:=C) (B:=B) (le:=le) (vq:=vq) (Z:=lastZ P ops C Q m) (m:=m) (fun a F F' hF hz w hw hc=>hz w (hF w hw) hc) (fun a F hz w hF hc=>hz w hF hc) hns hsz hlast hback hCB hCS ops.size l _ a _ (fun _=>True) (by omega) ⟨by simp,fun i hi=>?_,fun x hx=>?_,?_,fun j oj hoj hj=>?_,?_⟩ hg hp (fun _ _ _ _=>trivial) trivial hC h
  · have hi2:i<ops.size:=by omega
    rw[hl]
    simp[hi2,hi]
  · have:x.1∈l.map (·.1):=List.mem_map_of_mem hx
    rw[hl] at this
    simpa using this
  · have:m<ops.size:=by omega
    simp[this]
  · exfalso
    by_cases h1:j<ops.size
    · simp[h1] at hj
    · simp[h1] at hj
  · have h1:(l.map (·.1)).Pairwise (·<·):=by rw[hl];exact List.pairwise_lt_range
    rwa [List.pairwise_map] at h1
theorem LoOp.enter {o:Oper} {a:Act} {w:World} {post:Value→World→Prop} {f:FuncId} {args:Array Value} (hr:(execOp a.eval o).run P w=.ok (.enter f args) w) (h:Calls P f args w fun e w'=>∃ v,e=.returned v∧post v w'):LoOp P o a w post:=by
  unfold LoOp
  rw[hr]
  exact h
theorem LoOp.val {o:Oper} {a:Act} {w w1:World} {post:Value→World→Prop} {v:Value} (hr:(execOp a.eval o).run P w=.ok (.value v) w1) (h:post v w1):LoOp P o a w post:=by
  unfold LoOp
  rw[hr]
  exact h
theorem LoOp.skip {o:Oper} {a:Act} {w w1:World} {post:Value→World→Prop} (hd:o.dst=none) (hr:(execOp a.eval o).run P w=.ok .skip w1) (h:post undef w1):LoOp P o a w post:=by
  unfold LoOp
  rw[hr]
  exact⟨hd,h⟩
theorem run_append_op {o:Oper} {a:Act} {s x:Operand} {t:TypeId} {v sv xv:Value} {W W1:World} (ho:o.op=.call { callee:=.builtin .append,args:=#[s,x],argTypes:=#[t,t] }) (hs:a.eval s=sv) (hx:a.eval x=xv) (hr:(Builtin.append_ #[t,t] o.type #[sv,xv]).run P W=.ok v W1):(execOp a.eval o).run P W=.ok (.value v) W1:=by
  unfold execOp
  simp only[ho,resolve,invoke,builtin,Sem.run_bind,Sem.run_pure,Result.andThen_ok,List.map_toArray,List.map_cons,List.map_nil,hs,hx,hr]
end
def CK (w0:World) (rb:Option Nat) (W:World):Prop:=w0.heap.size≤W.heap.size∧∀ b,b<w0.heap.size→¬ some b=rb→W.heap[b]?=w0.heap[b]?
theorem CK.drew {w:World} {rb:Option Nat}:CK w rb w.drew:=⟨Nat.le_refl _,fun _ _ _=>rfl⟩
theorem CK.alloc {w W:World} {rb:Option Nat} (h:CK w rb W) (o:Obj):CK w rb (W.alloc o):=⟨by rw[World.size_alloc];exact Nat.le_succ_of_le h.1,fun i hi h1=>((bw_alloc o (bw_refl W)).block i (Nat.lt_of_lt_of_le hi h.1)).trans (h.2 i hi h1)⟩
theorem CK.below {w W W2:World} {rb:Option Nat} (h:CK w rb W) (hb:Below W.heap.size W W2):CK w rb W2:=⟨Nat.le_trans h.1 hb.size,fun i hi h1=>(hb.block i (Nat.lt_of_lt_of_le hi h.1)).trans (h.2 i hi h1)⟩
theorem CK.grown {w W W2:World} {rb:Option Nat} (h:CK w rb W) (hb:W.grownBy W2 rb):CK w rb W2:=⟨Nat.le_trans h.1 hb.size,fun i hi h1=>(hb.block i (Nat.lt_of_lt_of_le hi h.1) h1).trans (h.2 i hi h1)⟩
theorem CK.cell {w W:World} {rb:Option Nat} (h:CK w rb W) {b o:Nat} (hb:b<w.heap.size) (hn:¬ some b=rb) {v:Value} (h0:w.cell? ⟨b,o,none⟩=some v):W.cell? ⟨b,o,none⟩=some v:=(World.cell?_of_block (a:=⟨b,o,none⟩) (h.2 b hb hn)).trans h0
theorem CK.frozen {w W:World} {rb:Option Nat} (h:CK w rb W) {b o:Nat} (hb:b<w.heap.size) (hn:¬ some b=rb) (h0:w.frozen? ⟨b,o,none⟩=false):W.frozen? ⟨b,o,none⟩=false:=(World.frozen?_of_block (a:=⟨b,o,none⟩) (h.2 b hb hn)).trans h0
section
variable {ops:Array Oper}
def goodTx (ops:Array Oper):List Nat→List (Nat × LK)→Bool
  | _,[]=>true
  | run,(j,.chain)::rest=>run.all (fun y=>(anc ops 3 j).contains y) && goodTx ops [j] rest
  | run,(j,.lit)::rest=>goodTx ops (j::run) rest
  | run,(_,.quiet)::rest=>goodTx ops run rest
theorem goodTx_mono:∀ (l:List (Nat × LK)) (run run':List Nat),(∀ y∈run',y∈run)→goodTx ops run l=true→goodTx ops run' l=true:=by
  intro l
  induction l with
  | nil=>intro _ _ _ _;rfl
  | cons x l ih=>
    intro run run' h hg
    obtain⟨j,k⟩:=x
    cases k with
    | chain=>
      simp only[goodTx,Bool.and_eq_true,List.all_eq_true] at hg ⊢
      exact⟨fun y hy=>hg.1 y (h y hy),hg.2⟩
    | quiet=>exact ih _ _ h hg
    | lit=>exact ih _ _ (fun y hy=>by rcases List.mem_cons.1 hy with rfl|hy;exact List.mem_cons_self .. ;exact List.mem_cons_of_mem _ (h y hy)) hg
theorem goodTx_tail {x:Nat × LK} {l:List (Nat × LK)} (h:goodTx ops [] (x::l)=true):goodTx ops [] l=true:=by
  obtain⟨j,k⟩:=x
  cases k with
  | chain=>
    simp only[goodTx,Bool.and_eq_true] at h
    exact goodTx_mono _ _ _ (fun y hy=>by simp at hy) h.2
  | quiet=>exact h
  | lit=>exact goodTx_mono _ _ _ (fun y hy=>by simp at hy) h
theorem goodTx_drop {b:Nat} {k:LK} (hk:k≠.chain) (l2:List (Nat × LK)):∀ (l1:List (Nat × LK)) (run:List Nat),goodTx ops run (l1++(b,k)::l2)=true→goodTx ops run (l1++l2)=true:=by
  intro l1
  induction l1 with
  | nil=>
    intro run h
    cases k with
    | chain=>exact absurd rfl hk
    | quiet=>exact h
    | lit=>exact goodTx_mono _ _ _ (fun y hy=>List.mem_cons_of_mem _ hy) h
  | cons x l1 ih=>
    intro run h
    obtain⟨j,kj⟩:=x
    cases kj with
    | chain=>
      simp only[List.cons_append,goodTx,Bool.and_eq_true] at h ⊢
      exact⟨h.1,ih _ h.2⟩
    | quiet=>exact ih _ h
    | lit=>exact ih _ h
theorem goodTx_dropc {b:Nat} (l2:List (Nat × LK)):∀ (l1:List (Nat × LK)),(∀ x∈l1,x.2=.quiet)→goodTx ops [] (l1++(b,.chain)::l2)=true→goodTx ops [] (l1++l2)=true:=by
  intro l1
  induction l1 with
  | nil=>intro _ h;exact goodTx_tail h
  | cons x l1 ih=>
    intro hq h
    obtain⟨j,kj⟩:=x
    have:=hq (j,kj) (by simp)
    simp only at this
    subst this
    exact ih (fun y hy=>hq y (List.mem_cons_of_mem _ hy)) h
theorem goodTx_waits {j:Nat}:∀ (l1 l2:List (Nat × LK)) (run:List Nat),(run≠[]∨∃ x∈l1,x.2≠.quiet)→goodTx ops run (l1++(j,.chain)::l2)=true→∃ y,(y∈run∨y∈l1.map (·.1))∧y∈anc ops 3 j:=by
  intro l1
  induction l1 with
  | nil=>
    intro l2 run hr h
    simp only[List.nil_append,goodTx,Bool.and_eq_true,List.all_eq_true] at h
    cases run with
    | nil=>rcases hr with hr|⟨x,hx,_⟩;exact absurd rfl hr;simp at hx
    | cons y r=>exact⟨y,.inl (by simp),by simpa using h.1 y (by simp)⟩
  | cons x l1 ih=>
    intro l2 run hr h
    obtain⟨i,k⟩:=x
    cases k with
    | chain=>
      simp only[List.cons_append,goodTx,Bool.and_eq_true] at h
      obtain⟨y,h1,h2⟩:=ih l2 [i] (.inl (by simp)) h.2
      refine⟨y,.inr ?_,h2⟩
      rcases h1 with h1|h1
      · simp only[List.mem_singleton] at h1;subst h1;simp
      · simp only[List.map_cons,List.mem_cons];exact .inr h1
    | quiet=>
      have hq:run≠[]∨∃ x∈l1,x.2≠.quiet:=by
        rcases hr with hr|⟨x,hx,e⟩
        · exact .inl hr
        · rcases List.mem_cons.1 hx with rfl|hx
          · exact absurd rfl e
          · exact .inr ⟨x,hx,e⟩
      obtain⟨y,h1,h2⟩:=ih l2 run hq h
      exact⟨y,h1.imp id (fun h1=>by simp only[List.map_cons,List.mem_cons];exact .inr h1),h2⟩
    | lit=>
      obtain⟨y,h1,h2⟩:=ih l2 (i::run) (.inl (by simp)) h
      refine⟨y,?_,h2⟩
      rcases h1 with h1|h1
      · rcases List.mem_cons.1 h1 with rfl|h1
        · exact .inr (by simp)
        · exact .inl h1
      · exact .inr (by simp only[List.map_cons,List.mem_cons];exact .inr h1)
def hasLit (l:List (Nat × LK)):Bool:=l.any (fun x=>decide (x.2=.lit))
theorem hasLit_mid {x:Nat × LK} (hx:x.2≠.lit) (l1 l2:List (Nat × LK)):hasLit (l1++x::l2)=hasLit (l1++l2):=by
  simp[hasLit,hx]
theorem hasLit_sub {x:Nat × LK} (l1 l2:List (Nat × LK)) (h:hasLit (l1++l2)=true):hasLit (l1++x::l2)=true:=by
  simp only[hasLit,List.any_append,List.any_cons,Bool.or_eq_true] at h ⊢
  rcases h with h|h
  · exact .inl h
  · exact .inr (.inr h)
def pairTx (ops:Array Oper) (x b:Nat × LK):Bool:=(decide (b.2=.chain) && decide (x.2=.chain)) || (anc ops 3 b.1).contains x.1 || (match ops[b.1]?,ops[x.1]? with|some ob,some ox=>ob.apart ops ox|_,_=>false)
def pairsTx (ops:Array Oper):List (Nat × LK)→Bool
  | []=>true
  | x::r=>r.all (pairTx ops x) && pairsTx ops r
theorem pairsTx_drop {x:Nat × LK} (l2:List (Nat × LK)):∀ l1:List (Nat × LK),pairsTx ops (l1++x::l2)=true→pairsTx ops (l1++l2)=true:=by
  intro l1
  induction l1 with
  | nil=>intro h;simp only[List.nil_append,pairsTx,Bool.and_eq_true] at h ⊢;exact h.2
  | cons y l1 ih=>
    intro h
    simp only[List.cons_append,pairsTx,Bool.and_eq_true,List.all_eq_true] at h ⊢
    refine⟨fun z hz=>h.1 z ?_,ih h.2⟩
    rcases List.mem_append.1 hz with hz|hz
    · exact List.mem_append_left _ hz
    · exact List.mem_append_right _ (List.mem_cons_of_mem _ hz)
theorem pairsTx_at {x:Nat × LK} (l2:List (Nat × LK)):∀ l1:List (Nat × LK),pairsTx ops (l1++x::l2)=true→∀ y∈l1,pairTx ops y x=true:=by
  intro l1
  induction l1 with
  | nil=>intro _ y hy;simp at hy
  | cons z l1 ih=>
    intro h y hy
    simp only[List.cons_append,pairsTx,Bool.and_eq_true,List.all_eq_true] at h
    rcases List.mem_cons.1 hy with rfl|hy
    · exact h.1 x (by simp)
    · exact ih h.2 y hy
end
section
variable (P:Program) (ops:Array Oper) (B:Nat) (lo:Nat→Obj) (C:World→Prop)
def QOk (a:Act) (o:Oper) (v:Value):Prop:=(Region.wanted o (yielded ops a.tmps)=true∧∀ w,C w→(execOp a.eval o).run P w=.ok (.value v) w)∨(Region.wanted o (yielded ops a.tmps)=false∧v=undef)
def wpTx (vq:Nat→Value) (Z:Act→(World→Prop)→Prop):List (Nat × LK)→List (Nat × Nat)→Act→(World→Prop)→Prop
  | [],_,a,F=>Z a F
  | (i,.quiet)::rest,iv,a,F=>∃ o v,ops[i]?=some o∧QOk P ops C a o v∧wpTx vq Z rest iv (a.put o.dst v) F
  | (i,.lit)::rest,iv,a,F=>∃ o,ops[i]?=some o∧Region.wanted o (yielded ops a.tmps)=true∧(∀ w,(execOp a.eval o).run P w=.ok (.value (.pointer (some ⟨w.heap.size,0,none⟩))) (w.alloc (lo i)))∧∀ g:Nat,wpTx vq Z rest iv (a.put o.dst (.pointer (some ⟨g,0,none⟩))) (fun W=>F W∧B≤g∧W.heap[g]?=some (lo i)∧∀ z∈iv,g<z.1∨z.2≤g)
  | (i,.chain)::rest,iv,a,F=>∃ o,ops[i]?=some o∧Region.wanted o (yielded ops a.tmps)=true∧∃ (ι:Type) (y0:ι) (val:ι→Value) (G:ι→World→Prop) (I:ι→Nat × Nat),(∀ w,F w→C w→LoOp P o a w (fun v w'=>∃ y,v=val y∧C w'∧G y w'∧(hasLit rest=true→Below w.heap.size w w'∧w.heap.size≤(I y).1∧(I y).2≤w'.heap.size)))∧(hasLit rest=true→∀ y w w',G y w→Below w.heap.size w w'→G y w')∧∀ y,wpTx vq Z rest (I y::iv) (a.put o.dst (val y)) (G y)
end
section
variable {P:Program} {ops:Array Oper} {B:Nat} {lo:Nat→Obj} {C:World→Prop} {vq:Nat→Value} {Z:Act→(World→Prop)→Prop} {iv:List (Nat × Nat)}
theorem wpTx_q {i:Nat} {rest:List (Nat × LK)} {a:Act} {F:World→Prop} {o:Oper} (d:Option Tmp) (ho:ops[i]?=some o) (hd:o.dst=d) (hw:Region.wanted o (yielded ops a.tmps)=true) (hr:∀ w,C w→(execOp a.eval o).run P w=.ok (.value (vq i)) w) (h:wpTx P ops B lo C vq Z rest iv (a.put d (vq i)) F):wpTx P ops B lo C vq Z ((i,.quiet)::rest) iv a F:=⟨o,vq i,ho,.inl ⟨hw,hr⟩,hd ▸ h⟩
theorem wpTx_v {i:Nat} {rest:List (Nat × LK)} {a:Act} {F:World→Prop} {o:Oper} (d:Option Tmp) (v:Value) (ho:ops[i]?=some o) (hd:o.dst=d) (hw:Region.wanted o (yielded ops a.tmps)=true) (hr:∀ w,C w→(execOp a.eval o).run P w=.ok (.value v) w) (h:wpTx P ops B lo C vq Z rest iv (a.put d v) F):wpTx P ops B lo C vq Z ((i,.quiet)::rest) iv a F:=⟨o,v,ho,.inl ⟨hw,hr⟩,hd ▸ h⟩
theorem QOk_put {a:Act} {o:Oper} {u:Value} (hs:∀ cs b,o.op≠.select cs b) {d:Option Tmp} {v:Value} (c:∀ x,d=some x→x ∉ o.looksAt ops):QOk P ops C (a.put d v) o u↔QOk P ops C a o u:=by
  unfold QOk
  rw[wanted_put o a d v c,execOp_put (ops:=ops) o hs a d v c]
theorem QOk_one {a:Act} {o:Oper} {u v:Value} (hC:∃ w,C w) (h1:QOk P ops C a o u) (h2:QOk P ops C a o v):u=v:=by
  obtain⟨w,hw⟩:=hC
  rcases h1 with ⟨a1,b1⟩|⟨a1,b1⟩ <;> rcases h2 with ⟨a2,b2⟩|⟨a2,b2⟩
  · have h3:=(b1 w hw).symm.trans (b2 w hw)
    injection h3 with h3 _
    injection h3
  · rw[a1] at a2;cases a2
  · rw[a1] at a2;cases a2
  · rw[b1,b2]
theorem LoOp_mono {o:Oper} {a:Act} {w:World} {p1 p2:Value→World→Prop} (h:LoOp P o a w p1) (hm:∀ v w',p1 v w'→p2 v w'):LoOp P o a w p2:=by
  unfold LoOp at h ⊢
  generalize (execOp a.eval o).run P w=r at *
  cases r with
  | ok n w'=>
    cases n <;> simp only at h ⊢
    case value v=>exact hm _ _ h
    case skip=>exact⟨h.1,hm _ _ h.2⟩
    case enter f args=>exact Calls.mono h fun e w'' he=>by obtain⟨v,rfl,hp⟩:=he;exact⟨v,rfl,hm _ _ hp⟩
  | halt x w'=>exact h.elim
theorem wpTx_c {i:Nat} {rest:List (Nat × LK)} {a:Act} {F:World→Prop} {o:Oper} (d:Option Tmp) (ho:ops[i]?=some o) (hd:o.dst=d) (hw:Region.wanted o (yielded ops a.tmps)=true) {ι:Type} (y0:ι) (val:ι→Value) (G:ι→World→Prop) (hr:∀ w,F w→C w→LoOp P o a w (fun v w'=>∃ y,v=val y∧C w'∧G y w')) (h:∀ y,wpTx P ops B lo C vq Z rest ((0,0)::iv) (a.put d (val y)) (G y)) (hnl:hasLit rest=false:=by rfl):wpTx P ops B lo C vq Z ((i,.chain)::rest) iv a F:=
  have hn:hasLit rest=true→False:=fun e=>by rw[hnl] at e;cases e
  ⟨o,ho,hw,ι,y0,val,G,fun _=>(0,0),fun w hF hC=>LoOp_mono (hr w hF hC) (fun v w' ⟨y,h1,h2,h3⟩=>⟨y,h1,h2,h3,fun e=>(hn e).elim⟩),fun e=>(hn e).elim,hd ▸ h⟩
theorem wpTx_d {i:Nat} {rest:List (Nat × LK)} {a:Act} {F:World→Prop} {o:Oper} (d:Option Tmp) (ho:ops[i]?=some o) (hd:o.dst=d) (hw:Region.wanted o (yielded ops a.tmps)=true) {ι:Type} (y0:ι) (val:ι→Value) (G:ι→World→Prop) (I:ι→Nat × Nat) (hr:∀ w,F w→C w→LoOp P o a w (fun v w'=>∃ y,v=val y∧C w'∧G y w'∧Below w.heap.size w w'∧w.heap.size≤(I y).1∧(I y).2≤w'.heap.size)) (hs:∀ y w w',G y w→Below w.heap.size w w'→G y w') (h:∀ y,wpTx P ops B lo C vq Z rest (I y::iv) (a.put d (val y)) (G y)):wpTx P ops B lo C vq Z ((i,.chain)::rest) iv a F:=
  ⟨o,ho,hw,ι,y0,val,G,I,fun w hF hC=>LoOp_mono (hr w hF hC) (fun v w' ⟨y,h1,h2,h3,h4⟩=>⟨y,h1,h2,h3,fun _=>h4⟩),fun _=>hs,hd ▸ h⟩
theorem wpTx_l {i:Nat} {rest:List (Nat × LK)} {a:Act} {F:World→Prop} {o:Oper} (d:Option Tmp) (ho:ops[i]?=some o) (hd:o.dst=d) (hw:Region.wanted o (yielded ops a.tmps)=true) (hr:∀ w,(execOp a.eval o).run P w=.ok (.value (.pointer (some ⟨w.heap.size,0,none⟩))) (w.alloc (lo i))) (h:∀ g:Nat,wpTx P ops B lo C vq Z rest iv (a.put d (.pointer (some ⟨g,0,none⟩))) (fun W=>F W∧B≤g∧W.heap[g]?=some (lo i)∧∀ z∈iv,g<z.1∨z.2≤g)):wpTx P ops B lo C vq Z ((i,.lit)::rest) iv a F:=⟨o,ho,hw,hr,hd ▸ h⟩
theorem wpTx_z {a:Act} {F:World→Prop} (h:Z a F):wpTx P ops B lo C vq Z [] iv a F:=h
theorem wpTx_move (hCi:∃ w,C w) (hsel:∀ (j:Nat) (o:Oper) cs b,ops[j]?=some o→o.op≠.select cs b) {b:Nat} {ob:Oper} (hob:ops[b]?=some ob) (l2:List (Nat × LK)) :
    ∀ (l1:List (Nat × LK)) (iv:List (Nat × Nat)) (a:Act) (F:World→Prop),(∀ x∈l1,∀ ox,ops[x.1]?=some ox→ob.apart ops ox=true)→wpTx P ops B lo C vq Z (l1++(b,.quiet)::l2) iv a F→wpTx P ops B lo C vq Z ((b,.quiet)::(l1++l2)) iv a F:=by
  intro l1
  induction l1 with
  | nil=>intro iv a F _ h;exact h
  | cons x l1 ih=>
    intro iv a F hap h
    obtain⟨i,ki⟩:=x
    have hapr:∀ y∈l1,∀ oy,ops[y.1]?=some oy→ob.apart ops oy=true:=fun y hy=>hap y (by simp[hy])
    have core:∀ ox,ops[i]?=some ox→(∀ d,ob.dst=some d→d ∉ ox.looksAt ops)∧(∀ d,ob.dst=some d→ox.dst≠some d)∧(∀ d,ox.dst=some d→d ∉ ob.looksAt ops):=fun ox hox=>Oper.apart_spec (hap (i,ki) (by simp) ox hox)
    cases ki with
    | quiet=>
      obtain⟨ox,v,h1,h2,h4⟩:=h
      obtain⟨c1,c2,c3⟩:=core ox h1
      obtain⟨ob',v',e1,e2,e4⟩:=ih _ _ _ hapr h4
      obtain rfl:=Option.some.inj (hob.symm.trans e1)
      refine⟨_,v',hob,(QOk_put (hsel b _ · · hob) c3).1 e2,ox,v,h1,(QOk_put (hsel i ox · · h1) c1).2 h2,?_⟩
      rw[Act.put_comm a _ _ c2]
      exact e4
    | lit=>
      obtain⟨ox,h1,h2,h3,h4⟩:=h
      obtain⟨c1,c2,c3⟩:=core ox h1
      obtain⟨ob',v',e1,e2,e4⟩:=ih _ _ _ hapr (h4 0)
      obtain rfl:=Option.some.inj (hob.symm.trans e1)
      have e2':=(QOk_put (hsel b _ · · hob) c3).1 e2
      refine⟨_,v',hob,e2',ox,h1,by rw[wanted_put ox a _ _ c1];exact h2,fun w=>by rw[execOp_put (ops:=ops) ox (hsel i ox · · h1) a _ _ c1];exact h3 w,fun g=>?_⟩
      obtain⟨ob'',v'',f1,f2,f4⟩:=ih _ _ _ hapr (h4 g)
      obtain rfl:=Option.some.inj (hob.symm.trans f1)
      obtain rfl:=QOk_one hCi e2' ((QOk_put (hsel b _ · · hob) c3).1 f2)
      rw[Act.put_comm a _ _ c2]
      exact f4
    | chain=>
      obtain⟨ox,h1,h2,ι,y0,val,G,I,h4,h6,h5⟩:=h
      obtain⟨c1,c2,c3⟩:=core ox h1
      obtain⟨ob',v',e1,e2,e4⟩:=ih _ _ _ hapr (h5 y0)
      obtain rfl:=Option.some.inj (hob.symm.trans e1)
      have hm:hasLit (l1.append ((b,LK.quiet)::l2))=hasLit (l1++l2):=hasLit_mid (x:=(b,LK.quiet)) (by simp) l1 l2
      rw[hm] at h4 h6
      have e2':=(QOk_put (hsel b _ · · hob) c3).1 e2
      refine⟨_,v',hob,e2',ox,h1,by rw[wanted_put ox a _ _ c1];exact h2,ι,y0,val,G,I,fun w hF hC=>(LoOp_put (hsel i ox · · h1) _ _ c1).2 (h4 w hF hC),h6,fun y=>?_⟩
      obtain⟨ob'',v'',f1,f2,f4⟩:=ih _ _ _ hapr (h5 y)
      obtain rfl:=Option.some.inj (hob.symm.trans f1)
      obtain rfl:=QOk_one hCi e2' ((QOk_put (hsel b _ · · hob) c3).1 f2)
      rw[Act.put_comm a _ _ c2]
      exact f4
theorem wpTx_movec (hsel:∀ (j:Nat) (o:Oper) cs b,ops[j]?=some o→o.op≠.select cs b) {b:Nat} {ob:Oper} (hob:ops[b]?=some ob) (l2:List (Nat × LK)) :
    ∀ (l1:List (Nat × LK)) (iv:List (Nat × Nat)) (a:Act) (F:World→Prop),(∀ x∈l1,x.2=.quiet)→(∀ x∈l1,∀ ox,ops[x.1]?=some ox→ob.apart ops ox=true)→wpTx P ops B lo C vq Z (l1++(b,.chain)::l2) iv a F→wpTx P ops B lo C vq Z ((b,.chain)::(l1++l2)) iv a F:=by
  intro l1
  induction l1 with
  | nil=>intro iv a F _ _ h;exact h
  | cons x l1 ih=>
    intro iv a F hq hap h
    obtain⟨i,ki⟩:=x
    have:=hq (i,ki) (by simp)
    simp only at this
    subst this
    have hapr:∀ y∈l1,∀ oy,ops[y.1]?=some oy→ob.apart ops oy=true:=fun y hy=>hap y (by simp[hy])
    have hqr:∀ y∈l1,y.2=LK.quiet:=fun y hy=>hq y (by simp[hy])
    obtain⟨ox,v,h1,h2,h4⟩:=h
    obtain⟨c1,c2,c3⟩:=Oper.apart_spec (hap (i,.quiet) (by simp) ox h1)
    obtain⟨ob',e1,e2,ι,y0,val,G,I,e3,e6,e4⟩:=ih _ _ _ hqr hapr h4
    obtain rfl:=Option.some.inj (hob.symm.trans e1)
    have hq3:hasLit ((i,LK.quiet)::l1++l2)=hasLit (l1++l2):=hasLit_mid (x:=(i,LK.quiet)) (by simp) [] (l1++l2)
    rw[←hq3] at e3 e6
    refine⟨_,hob,by rw[←e2];exact(wanted_put _ a ox.dst v c3).symm,ι,y0,val,G,I,fun w hF hC=>(LoOp_put (hsel b _ · · hob) _ _ c3).1 (e3 w hF hC),e6,fun y=>?_⟩
    refine⟨ox,v,h1,(QOk_put (hsel i ox · · h1) c1).2 h2,?_⟩
    rw[Act.put_comm a _ _ c2]
    exact e4 y
theorem wpTx_movel (hsel:∀ (j:Nat) (o:Oper) cs b,ops[j]?=some o→o.op≠.select cs b) {b:Nat} {ob:Oper} (hob:ops[b]?=some ob) (l2:List (Nat × LK)) :
    ∀ (l1:List (Nat × LK)) (iv:List (Nat × Nat)) (a:Act) (F:World→Prop),(∀ x∈l1,∀ ox,ops[x.1]?=some ox→ob.apart ops ox=true)→wpTx P ops B lo C vq Z (l1++(b,.lit)::l2) iv a F→wpTx P ops B lo C vq Z ((b,.lit)::(l1++l2)) iv a F:=by
  intro l1
  induction l1 with
  | nil=>intro iv a F _ h;exact h
  | cons x l1 ih=>
    intro iv a F hap h
    obtain⟨i,ki⟩:=x
    have hapr:∀ y∈l1,∀ oy,ops[y.1]?=some oy→ob.apart ops oy=true:=fun y hy=>hap y (by simp[hy])
    have core:∀ ox,ops[i]?=some ox→(∀ d,ob.dst=some d→d ∉ ox.looksAt ops)∧(∀ d,ob.dst=some d→ox.dst≠some d)∧(∀ d,ox.dst=some d→d ∉ ob.looksAt ops):=fun ox hox=>Oper.apart_spec (hap (i,ki) (by simp) ox hox)
    cases ki with
    | quiet=>
      obtain⟨ox,v,h1,h2,h4⟩:=h
      obtain⟨c1,c2,c3⟩:=core ox h1
      obtain⟨ob',e1,e2,e3,e4⟩:=ih _ _ _ hapr h4
      obtain rfl:=Option.some.inj (hob.symm.trans e1)
      refine⟨_,hob,by rw[←e2];exact(wanted_put _ a ox.dst _ c3).symm,fun w=>by rw[←execOp_put (ops:=ops) _ (hsel b _ · · hob) a ox.dst v c3];exact e3 w,fun g=>?_⟩
      refine⟨ox,v,h1,(QOk_put (hsel i ox · · h1) c1).2 h2,?_⟩
      rw[Act.put_comm a _ _ c2]
      exact e4 g
    | lit=>
      obtain⟨ox,h1,h2,h3,h4⟩:=h
      obtain⟨c1,c2,c3⟩:=core ox h1
      obtain⟨ob',e1,e2,e3,e4⟩:=ih _ _ _ hapr (h4 0)
      obtain rfl:=Option.some.inj (hob.symm.trans e1)
      refine⟨_,hob,by rw[←e2];exact(wanted_put _ a ox.dst _ c3).symm,fun w=>by rw[←execOp_put (ops:=ops) _ (hsel b _ · · hob) a ox.dst (.pointer (some ⟨0,0,none⟩)) c3];exact e3 w,fun g=>?_⟩
      refine⟨ox,h1,by rw[wanted_put ox a _ _ c1];exact h2,fun w=>by rw[execOp_put (ops:=ops) ox (hsel i ox · · h1) a _ _ c1];exact h3 w,fun g2=>?_⟩
      obtain⟨ob'',f1,f2,f3,f4⟩:=ih _ _ _ hapr (h4 g2)
      obtain rfl:=Option.some.inj (hob.symm.trans f1)
      rw[Act.put_comm a _ _ c2]
      have hfun:(fun W:World=>(F W∧B≤g∧W.heap[g]?=some (lo b)∧∀ z∈iv,g<z.1∨z.2≤g)∧B≤g2∧W.heap[g2]?=some (lo i)∧∀ z∈iv,g2<z.1∨z.2≤g2)=(fun W:World=>(F W∧B≤g2∧W.heap[g2]?=some (lo i)∧∀ z∈iv,g2<z.1∨z.2≤g2)∧B≤g∧W.heap[g]?=some (lo b)∧∀ z∈iv,g<z.1∨z.2≤g):=by
        funext W
        apply propext
        constructor <;> (rintro ⟨⟨x,y⟩,z⟩;exact⟨⟨x,z⟩,y⟩)
      rw[hfun]
      exact f4 g
    | chain=>
      obtain⟨ox,h1,h2,ι,y0,val,G,I,h4,h6,h5⟩:=h
      obtain⟨c1,c2,c3⟩:=core ox h1
      obtain⟨ob',e1,e2,e3,e4⟩:=ih _ _ _ hapr (h5 y0)
      obtain rfl:=Option.some.inj (hob.symm.trans e1)
      have hl:hasLit (l1++(b,LK.lit)::l2)=true:=by simp[hasLit]
      refine⟨_,hob,by rw[←e2];exact(wanted_put _ a ox.dst _ c3).symm,fun w=>by rw[←execOp_put (ops:=ops) _ (hsel b _ · · hob) a ox.dst (val y0) c3];exact e3 w,fun g=>?_⟩
      have hstay:∀ w w':World,Below w.heap.size w w'→w.heap[g]?=some (lo b)→w'.heap[g]?=some (lo b):=fun w w' hb e=>(hb.block g (Array.getElem?_eq_some_iff.1 e).1).trans e
      refine⟨ox,h1,by rw[wanted_put ox a _ _ c1];exact h2,ι,y0,val,fun y W=>G y W∧B≤g∧W.heap[g]?=some (lo b)∧∀ z∈I y::iv,g<z.1∨z.2≤g,I,fun w hF hC=>(LoOp_put (hsel i ox · · h1) _ _ c1).2 (LoOp_mono (h4 w hF.1 hC) (fun v w' ⟨y,k1,k2,k3,k4⟩=>⟨y,k1,k2,⟨k3,hF.2.1,hstay w w' (k4 hl).1 hF.2.2.1,fun z hz=>by
        rcases List.mem_cons.1 hz with rfl|hz
        · exact .inl (Nat.lt_of_lt_of_le (Array.getElem?_eq_some_iff.1 hF.2.2.1).1 (k4 hl).2.1)
        · exact hF.2.2.2 z hz⟩,fun _=>k4 hl⟩)),fun _ y w w' hG hb=>⟨h6 hl y w w' hG.1 hb,hG.2.1,hstay w w' hb hG.2.2.1,hG.2.2.2⟩,fun y=>?_⟩
      obtain⟨ob'',f1,f2,f3,f4⟩:=ih _ _ _ hapr (h5 y)
      obtain rfl:=Option.some.inj (hob.symm.trans f1)
      rw[Act.put_comm a _ _ c2]
      exact f4 g
theorem tx_sound {Q:Exit→Act→World→Prop} {m:Nat} (hfin:∀ a F,Z a F→∀ w,F w→C w→∃ om,ops[m]?=some om∧Region.wanted om (yielded ops a.tmps)=true∧Oper.wp P om a w (fun a' w'=>Q .normal a' w') Q)
  (hns:Region.noSelect ops=true) (hsz:ops.size=m+1) (hlast:lastLo ops m=true) (hback:backLo ops=true) :
  ∀ (fuel:Nat) (l:List (Nat × LK)) (listed:Array Bool) (iv:List (Nat × Nat)) (a:Act) (w:World) (F:World→Prop),l.length+1≤fuel→LoInv ops m l listed→goodTx ops [] l=true→pairsTx ops l=true→(hasLit l=true→(∀ w o,C w→C (w.alloc o))∧(∀ w,C w→B≤w.heap.size))→(hasLit l=true→∀ w w',F w→Below w.heap.size w w'→F w')→(hasLit l=true→∀ z∈iv,z.2≤w.heap.size)→F w→C w→wpTx P ops B lo C vq Z l iv a F→wpAny P .any ops Q fuel listed a w:=by
 intro fuel
 induction fuel with
 | zero=>intro l listed iv a w F h;omega
 | succ fuel ih=>
  intro l listed iv a w F hf hI hg hp hLC hLF hIv hF hC hw
  have hsel:=Region.noSelect_spec hns
  refine⟨fun hr=>?_,fun i hi=>?_⟩
  ·exfalso
   cases l with
   | nil=>
    have hm:m∈Region.ready .any ops listed:=by
     have hms:m<ops.size:=by omega
     refine mem_ready.2 ⟨hI.last,ops[m],Array.getElem?_eq_getElem hms,fun e he hb=>?_⟩
     have hlt:=back_at hback (Array.getElem?_eq_getElem hms) e he hb
     have h1:=(hI.mem e.on hlt)
     rcases Bool.eq_false_or_eq_true (listed.getD e.on false) with h2|h2
     ·exact h2
     ·exfalso
      have:=h1.1 ((getD_two (by rw[hI.size];omega)).2 (by simp[h2]))
      simp at this
    rw[hr] at hm
    cases hm
   | cons x l=>
    obtain⟨j,k⟩:=x
    have hjm:j<m:=hI.lt (j,k) (by simp)
    have hj:j∈Region.ready .any ops listed:=by
     have hjs:j<ops.size:=by omega
     refine mem_ready.2 ⟨(hI.mem j hjm).2 (by simp),ops[j],Array.getElem?_eq_getElem hjs,fun e he hb=>?_⟩
     have hlt:=back_at hback (Array.getElem?_eq_getElem hjs) e he hb
     have h1:=(hI.mem e.on (by omega))
     rcases Bool.eq_false_or_eq_true (listed.getD e.on false) with h2|h2
     ·exact h2
     ·exfalso
      have h3:=h1.1 ((getD_two (by rw[hI.size];omega)).2 (by simp[h2]))
      obtain⟨y,hy,e2⟩:=List.mem_map.1 h3
      rcases List.mem_cons.1 hy with rfl|hy
      ·simp only at e2;omega
      ·have:=(List.pairwise_cons.1 hI.sorted).1 y hy
       simp only at this e2
       omega
    rw[hr] at hj
    cases hj
  ·obtain⟨h0,o,ho,hall⟩:=mem_ready.1 hi
   have hil:∀ y,listed.getD y false=true→y<m→y ∉ l.map (·.1):=fun y hy hym hmem=>by
    have h1:=(hI.mem y hym).2 hmem
    have h2:y<listed.size:=by rw[hI.size];omega
    rw[getD_two h2] at h1
    exact h1 hy
   have his:i<ops.size:=(Array.getElem?_eq_some_iff.1 ho).1
   rcases Nat.lt_or_ge i m with him|him
   ·-- one of l
    have hmem:=(hI.mem i him).1 h0
    obtain⟨x,hx,ex⟩:=List.mem_map.1 hmem
    obtain⟨l1,l2,rfl⟩:=List.append_of_mem hx
    obtain⟨i',k⟩:=x
    simp only at ex
    subst ex
    have hanc:∀ y∈anc ops 3 i',listed.getD y false=true:=anc_listed hI.down 3 i' (fun o' ho' e he hb=>by obtain rfl:=Option.some.inj (ho.symm.trans ho');exact hall e he hb)
    have hI2:=hI.next hi
    have hp2:=pairsTx_drop _ l1 hp
    have hlen:(l1++l2).length+1≤fuel:=by simp only[List.length_append,List.length_cons] at hf ⊢;omega
    cases k with
    | chain=>
     have hl1:∀ x∈l1,x.2=.quiet:=by
      intro x hx
      by_cases hqx:x.2=.quiet
      ·exact hqx
      ·exfalso
       obtain⟨y,hy,ha⟩:=goodTx_waits l1 l2 [] (.inr ⟨_,hx,hqx⟩) hg
       rcases hy with hy|hy
       ·simp at hy
       have hmemy:y∈(l1++(i',LK.chain)::l2).map (·.1):=by
        rw[List.map_append]
        exact List.mem_append_left _ hy
       obtain⟨z,hz,ez⟩:=List.mem_map.1 hmemy
       exact hil y (hanc y ha) (by have:=hI.lt z hz;omega) hmemy
     have hap:∀ x∈l1,∀ ox,ops[x.1]?=some ox→o.apart ops ox=true:=fun x hx ox hox=>by
      have h1:=pairsTx_at l2 l1 hp x hx
      unfold pairTx at h1
      rw[ho,hox,hl1 x hx] at h1
      simp only[Bool.or_eq_true,Bool.and_eq_true,decide_eq_true_eq] at h1
      rcases h1 with (h1|h1)|h1
      ·cases h1.2
      ·exfalso
       exact hil x.1 (hanc x.1 (by simpa using h1)) (hI.lt x (List.mem_append_left _ hx)) (List.mem_map_of_mem (List.mem_append_left _ hx))
      ·exact h1
     obtain⟨o',e1,e2,ι,y0,val,G,I,h4,h6,h5⟩:=wpTx_movec hsel ho l2 l1 iv a F hl1 hap hw
     obtain rfl:=Option.some.inj (ho.symm.trans e1)
     unfold wpOp
     simp only[ho,e2,if_true]
     refine .inl ((h4 w hF hC).wp (fun v w' hpost=>?_))
     obtain⟨y,rfl,hS,hG,hbb⟩:=hpost
     exact ih _ _ (I y::iv) _ w' _ hlen hI2 (goodTx_dropc l2 l1 hl1 hg) hp2 (fun h=>hLC (hasLit_sub l1 l2 h)) (fun h=>h6 h y) (fun h z hz=>by
      rcases List.mem_cons.1 hz with rfl|hz
      ·exact(hbb h).2.2
      ·exact Nat.le_trans (hIv (hasLit_sub l1 l2 h) z hz) (bw_size (hbb h).1)) hG hS (h5 y)
    | quiet=>
     have hap:∀ x∈l1,∀ ox,ops[x.1]?=some ox→o.apart ops ox=true:=fun x hx ox hox=>by
      have h1:=pairsTx_at l2 l1 hp x hx
      unfold pairTx at h1
      rw[ho,hox] at h1
      simp only[Bool.or_eq_true,Bool.and_eq_true,decide_eq_true_eq] at h1
      rcases h1 with (h1|h1)|h1
      ·cases h1.1
      ·exfalso
       exact hil x.1 (hanc x.1 (by simpa using h1)) (hI.lt x (List.mem_append_left _ hx)) (List.mem_map_of_mem (List.mem_append_left _ hx))
      ·exact h1
     obtain⟨o',v',e1,e2,e4⟩:=wpTx_move ⟨w,hC⟩ hsel ho l2 l1 iv a F hap hw
     obtain rfl:=Option.some.inj (ho.symm.trans e1)
     unfold wpOp
     rcases e2 with ⟨e2,e3⟩|⟨e2,e3⟩
     ·simp only[ho,e2,if_true]
      refine .inl ?_
      unfold Oper.wp
      rw[e3 w hC]
      exact ih _ _ iv _ w F hlen hI2 (goodTx_drop (by decide) l2 l1 [] hg) hp2 (fun h=>hLC (hasLit_sub l1 l2 h)) (fun h=>hLF (hasLit_sub l1 l2 h)) (fun h=>hIv (hasLit_sub l1 l2 h)) hF hC e4
     ·simp only[ho,e2,Bool.false_eq_true,if_false]
      rw[←e3]
      exact ih _ _ iv _ w F hlen hI2 (goodTx_drop (by decide) l2 l1 [] hg) hp2 (fun h=>hLC (hasLit_sub l1 l2 h)) (fun h=>hLF (hasLit_sub l1 l2 h)) (fun h=>hIv (hasLit_sub l1 l2 h)) hF hC e4
    | lit=>
     have hap:∀ x∈l1,∀ ox,ops[x.1]?=some ox→o.apart ops ox=true:=fun x hx ox hox=>by
      have h1:=pairsTx_at l2 l1 hp x hx
      unfold pairTx at h1
      rw[ho,hox] at h1
      simp only[Bool.or_eq_true,Bool.and_eq_true,decide_eq_true_eq] at h1
      rcases h1 with (h1|h1)|h1
      ·cases h1.1
      ·exfalso
       exact hil x.1 (hanc x.1 (by simpa using h1)) (hI.lt x (List.mem_append_left _ hx)) (List.mem_map_of_mem (List.mem_append_left _ hx))
      ·exact h1
     have hl:hasLit (l1++(i',LK.lit)::l2)=true:=by simp[hasLit]
     obtain⟨hCA,hCB⟩:=hLC hl
     obtain⟨o',e1,e2,e3,e4⟩:=wpTx_movel hsel ho l2 l1 iv a F hap hw
     obtain rfl:=Option.some.inj (ho.symm.trans e1)
     unfold wpOp
     simp only[ho,e2,if_true]
     refine .inl ?_
     unfold Oper.wp
     rw[e3 w]
     have hbw:Below w.heap.size w (w.alloc (lo i')):=bw_alloc _ (bw_refl w)
     refine ih _ _ iv _ (w.alloc (lo i')) _ hlen hI2 (goodTx_drop (by decide) l2 l1 [] hg) hp2 (fun h=>hLC (hasLit_sub l1 l2 h)) (fun _ w1 w2 hF1 hb=>⟨hLF hl w1 w2 hF1.1 hb,hF1.2.1,(hb.block _ (Array.getElem?_eq_some_iff.1 hF1.2.2.1).1).trans hF1.2.2.1,hF1.2.2.2⟩) (fun _ z hz=>Nat.le_trans (hIv hl z hz) (bw_size hbw)) ⟨hLF hl w _ hF hbw,hCB w hC,?_,fun z hz=>.inr (hIv hl z hz)⟩ (hCA w _ hC) (e4 w.heap.size)
     show (w.heap.push (lo i'))[w.heap.size]?=some (lo i')
     exact Array.getElem?_push_size ..
   ·-- the last
    obtain rfl:i=m:=by omega
    have hl:l=[]:=by
     cases l with
     | nil=>rfl
     | cons x l=>
      exfalso
      have hx:=hI.lt x (by simp)
      unfold lastLo at hlast
      rw[ho] at hlast
      simp only[List.all_eq_true,List.mem_range] at hlast
      have h1:=hlast x.1 hx
      obtain⟨ei,hei,h2⟩:=Array.any_eq_true.1 h1
      rw[Bool.and_eq_true,decide_eq_true_eq] at h2
      exact hil x.1 (by rw[←h2.2];exact hall _ (Array.getElem_mem hei) h2.1) hx (by simp)
    subst hl
    obtain⟨om,e1,e2,e3⟩:=hfin a F hw w hF hC
    obtain rfl:=Option.some.inj (ho.symm.trans e1)
    unfold wpOp
    simp only[ho,e2,if_true]
    refine .inl (Oper.wp_mono (fun a' w' hq=>lo_done ?_ hq fuel) e3)
    rw[List.eq_nil_iff_forall_not_mem]
    intro j hj
    obtain⟨h1,oj,hoj,_⟩:=mem_ready.1 hj
    have hjs:j<ops.size:=(Array.getElem?_eq_some_iff.1 hoj).1
    by_cases e:i=j
    ·subst e
     have:i<listed.size:=by rw[hI.size];exact his
     simp[this] at h1
    ·rw[getD_set_ne true e] at h1
     have:=(hI.mem j (by omega)).1 h1
     simp at this
theorem LoOp.of_app {o:Oper} {a:Act} {W:World} {s x:Operand} {t:TypeId} {post:Value→World→Prop} {d:Nat} (ho:o.op=.call { callee:=.builtin .append,args:=#[s,x],argTypes:=#[t,t] }) (hd:o.dst=some d) (hz:d<a.tmps.size)
    (h:Oper.wp P o a W (fun a' w'=>post (a'.tmps.getD d undef) w') (fun _ _ _=>False)):LoOp P o a W post:=by
  cases hr:(Builtin.append_ #[t,t] o.type #[a.eval s,a.eval x]).run P W with
  | ok v W1=>
    have e:=run_append_op (P:=P) ho rfl rfl hr
    unfold Oper.wp at h
    rw[e] at h
    refine LoOp.val e ?_
    simp only[Oper.upon] at h
    rw[hd] at h
    simpa [Act.put,hz] using h
  | halt e W1=>
    exfalso
    have e2:(execOp a.eval o).run P W=.halt e W1:=by
      unfold execOp
      simp only[ho,resolve,invoke,builtin,Sem.run_bind,Sem.run_pure,Result.andThen_ok,List.map_toArray,List.map_cons,List.map_nil,hr]
      try rfl
    unfold Oper.wp at h
    rw[e2] at h
    simp only[Oper.upon] at h
    first|exact h|(cases e <;> simp at h)|skip
theorem LoOp.of_if {o:Oper} {a:Act} {W:World} {s x:Operand} {t:TypeId} {post:Value→World→Prop} {d:Nat} (ho:o.op=.call { callee:=.builtin .append,args:=#[s,x],argTypes:=#[t,t] }) (hd:o.dst=some d) (hz:d<a.tmps.size) (hw:Region.wanted o (yielded ops a.tmps)=true)
    (h:if Region.wanted o (yielded ops a.tmps)=true then Oper.wp P o a W (fun a' w'=>post (a'.tmps.getD d undef) w') (fun _ _ _=>False) else (fun a' w'=>post (a'.tmps.getD d undef) w') (a.put o.dst undef) W):LoOp P o a W post:=by
  rw[if_pos hw] at h
  exact LoOp.of_app ho hd hz h
theorem wp_region_ty {Q:Exit→Act→World→Prop} {id:Nat} {a:Act} {w:World} (B:Nat) (lo:Nat→Obj) (C:World→Prop) (vq:Nat→Value) (m:Nat) (l:List (Nat × LK)) (hm:P.follows .mixedOrders=true)
    (hns:Region.noSelect ops=true) (hsz:ops.size=m+1) (hl:l.map (·.1)=List.range m) (hlast:lastLo ops m=true) (hback:backLo ops=true) (hg:goodTx ops [] l=true) (hp:pairsTx ops l=true) (hC:C w.drew) (hLC:(∀ w o,C w→C (w.alloc o))∧(∀ w,C w→B≤w.heap.size)) (F0:World→Prop) (hF0:F0 w.drew) (hLF:hasLit l=true→∀ w w',F0 w→Below w.heap.size w w'→F0 w')
    (h:wpTx P ops B lo C vq (lastZ P ops C Q m) l [] a F0):(Code.region id ops true).wp P Q a w:=by
  refine wp_region_any hm ?_
  have hlen:l.length=m:=by have:=congrArg List.length hl;simpa using this
  refine tx_sound (P:=P) (B:=B) (lo:=lo) (C:=C) (vq:=vq) (Z:=lastZ P ops C Q m) (m:=m) (fun a F hz w hF hc=>hz w hF hc) hns hsz hlast hback ops.size l _ [] a _ F0 (by omega) ⟨by simp,fun i hi=>?_,fun x hx=>?_,?_,fun j oj hoj hj=>?_,?_⟩ hg hp (fun _=>hLC) hLF (fun _ z hz=>by simp at hz) hF0 hC h
  · have hi2:i<ops.size:=by omega
    rw[hl]
    simp[hi2,hi]
  · have:x.1∈l.map (·.1):=List.mem_map_of_mem hx
    rw[hl] at this
    simpa using this
  · have:m<ops.size:=by omega
    simp[this]
  · exfalso
    by_cases h1:j<ops.size
    · simp[h1] at hj
    · simp[h1] at hj
  · have h1:(l.map (·.1)).Pairwise (·<·):=by rw[hl];exact List.pairwise_lt_range
    rwa [List.pairwise_map] at h1
theorem wp_region_tx {Q:Exit→Act→World→Prop} {id:Nat} {a:Act} {w:World} (C:World→Prop) (vq:Nat→Value) (m:Nat) (l:List (Nat × LK)) (hm:P.follows .mixedOrders=true)
    (hns:Region.noSelect ops=true) (hsz:ops.size=m+1) (hl:l.map (·.1)=List.range m) (hlast:lastLo ops m=true) (hback:backLo ops=true) (hg:goodTx ops [] l=true) (hp:pairsTx ops l=true) (hC:C w.drew) (F0:World→Prop) (hF0:F0 w.drew)
    (h:wpTx P ops 0 (fun _=>.cells #[] 0) C vq (lastZ P ops C Q m) l [] a F0) (hnl:hasLit l=false:=by rfl):(Code.region id ops true).wp P Q a w:=by
  refine wp_region_any hm ?_
  have hlen:l.length=m:=by have:=congrArg List.length hl;simpa using this
  refine tx_sound (P:=P) (B:=0) (lo:=fun _=>.cells #[] 0) (C:=C) (vq:=vq) (Z:=lastZ P ops C Q m) (m:=m) (fun a F hz w hF hc=>hz w hF hc) hns hsz hlast hback ops.size l _ [] a _ F0 (by omega) ⟨by simp,fun i hi=>?_,fun x hx=>?_,?_,fun j oj hoj hj=>?_,?_⟩ hg hp (fun e=>by rw[hnl] at e;cases e) (fun e=>by rw[hnl] at e;cases e) (fun _ z hz=>by simp at hz) hF0 hC h
  · have hi2:i<ops.size:=by omega
    rw[hl]
    simp[hi2,hi]
  · have:x.1∈l.map (·.1):=List.mem_map_of_mem hx
    rw[hl] at this
    simpa using this
  · have:m<ops.size:=by omega
    simp[this]
  · exfalso
    by_cases h1:j<ops.size
    · simp[h1] at hj
    · simp[h1] at hj
  · have h1:(l.map (·.1)).Pairwise (·<·):=by rw[hl];exact List.pairwise_lt_range
    rwa [List.pairwise_map] at h1
end
end Go.Proofs.YtodbglncccgdbaaGreat
