/- Lemmas for laws of this seat, for all inputs: Wh2 Hop Fr MW Sk Pg Po Bf Tb Rk Wh3 Sg. -/
import Derived.Test.YtodbglncccgdbaaGreatQ19
import Derived.Test.YtodbglncccgdbaaGreatQ9
import Derived.Test.YtodbglncccgdbaaGreatQ13
import Derived.Test.YtodbglncccgdbaaGreatQ1
import Derived.Test.YtodbglncccgdbaaGreatQ18
set_option linter.unusedVariables false
set_option linter.unusedSimpArgs false
namespace NoC
def seM (n:Net) (si:Int→FS) (a:Int) (f:Flit):Int→FS:=fun b=>if b=eTo n a then aft f else si b
def ssM (ss:Int→FS) (a:Int) (f:Flit):Int→FS:=fun y=>if y=a then aft f else ss y
theorem dn_E {n:Net} {m:Mesh} {si:Int→FS} {sa:Int→Int→FS} {a:Int} {f:Flit} {y p c:Int} (hp:opens m y p) (k0:0≤c) (k1:c≤1) (eT:eTo n a=10*a+8+f.cls) (c0:0≤f.cls) (c1:f.cls≤1):dn m (seM n si a f) sa y p c=dn m si sa y p c:=by
  unfold dn seM
  by_cases e4:p=4
  · rw[if_pos e4,if_pos e4]
  · rw[if_neg e4,if_neg e4]
    have:=opp_eq (p:=p) hp.2.1 (by have:=hp.2.2.1;omega)
    rw[if_neg (by omega)]
theorem WI_enter {n x:Net} {so si:Int→FS} {ss:Int→FS} {sa:Int→Int→FS} (h:WI x so si ss sa) {a:Int} {f:Flit} {rest:List Flit} (a0:0≤a) (a1:a<(x.srcs.length:Int))
    (hf:rl x.srcs a=f::rest) (hfn:rf (rl n.srcs a) 0=f) (c0:0≤f.cls) (c1:f.cls≤1) (ht:eTo n a<(x.bufs.length:Int)):WI (enterB n x a) so (seM n si a f) (ssM ss a f) sa:=by
  have eT:eTo n a=10*a+8+f.cls:=by unfold eTo;rw[hfn]
  obtain⟨r1,r2⟩:=run_cons (by rw[←hf];exact h.src a a0 a1)
  have hl:=h.loc a f.cls a0 c0 c1
  have hsi:nx (si (eTo n a)) f=some (aft f):=by
    rw[eT,hl]
    refine nx_of (fun hh=>?_) (fun hh=>?_)
    · rw[nx_head r1 hh];rfl
    · rw[nx_body r1 hh]
      simp[lcl,fid]
  refine⟨fun b hb Bb=>?_,fun y y0 y1=>?_,h.arr,fun y c y0 k0 k1=>?_,fun y p c hp k0 k1=>?_,h.uniq⟩
  · unfold seM
    have e1:(enterB n x a).bufs=x.bufs.set (eTo n a).toNat (rl x.bufs (eTo n a)++[f]):=by unfold enterB;rw[hfn]
    rw[e1] at Bb ⊢
    rw[List.length_set] at Bb
    rw[rl_setI (by omega) ht b hb]
    have h5:=h.buf b hb Bb
    by_cases e:b=eTo n a
    · rw[if_pos e,if_pos e]
      rw[e] at h5 ⊢
      rw[run_snoc f _ _ _ h5]
      exact hsi
    · rw[if_neg e,if_neg e]
      exact h5
  · unfold ssM
    have e1:(enterB n x a).srcs=x.srcs.set a.toNat ((rl x.srcs a).drop 1):=rfl
    rw[e1] at y1 ⊢
    rw[List.length_set] at y1
    rw[rl_setI a0 a1 y y0]
    by_cases e:y=a
    · rw[if_pos e,if_pos e,hf]
      exact r2
    · rw[if_neg e,if_neg e]
      exact h.src y y0 y1
  · unfold seM ssM
    have hy:=h.loc y c y0 k0 k1
    by_cases e:y=a
    · rw[if_pos e]
      subst e
      by_cases ec:c=f.cls
      · rw[if_pos (by omega)]
        unfold aft
        cases ht2:f.tail
        · simp[lcl,fid,ec]
        · simp[lcl]
      · rw[if_neg (by omega),hy]
        have en:¬ f.cls=c:=fun e2=>ec e2.symm
        have h1:lcl (ss y) c=none:=by
          cases hh:f.head
          · rw[nx_body r1 hh]
            simp[lcl,fid,en]
          · rw[nx_head r1 hh]
            rfl
        rw[h1]
        unfold aft
        cases ht2:f.tail
        · simp[lcl,fid,en]
        · simp[lcl]
    · rw[if_neg e,if_neg (by omega)]
      exact hy
  · have e2:(enterB n x a).mesh=x.mesh:=rfl
    rw[e2] at hp ⊢
    rw[dn_E hp k0 k1 eT c0 c1]
    exact h.own y p c hp k0 k1
structure WX (n:Net) (so si:Int→FS) (sa:Int→Int→FS):Prop where
  cv:∀ (a j c:Int) t,0≤j→j≤4→0≤c→c≤1→so (10*a+2*j+c)=some t→∃ p,opens n.mesh a p∧ownAt n a p c=j
  dr:∀ (a p c:Int) t,opens n.mesh a p→0≤c→c≤1→dn n.mesh si sa a p c=some t→entry n.mesh (tabOf n.pa n.pb c) a t.2.1=p∧isNode n.mesh.g t.2.1=true
  cl:∀ (a p c:Int),isNode n.mesh.g a=true→0≤p→p≤4→0≤c→c≤1→ownAt n a p c≠-1→opens n.mesh a p
  bd:∀ (a q c:Int),isNode n.mesh.g a=true→0≤q→q≤3→0≤c→c≤1→si (10*a+2*q+c)≠none→isNode n.mesh.g (nextNode n.mesh.g a q)=true∧live n.mesh (4*nextNode n.mesh.g a q+opposite q)=true
def WE (n:Net):Prop:=∃ so si ss sa,WI n so si ss sa∧WX n so si sa
theorem Mv.opens {n x:Net} {g:Grant} {rest:List Flit} (M:Mv n x g rest):NoC.opens x.mesh g.node g.port:=by
  refine⟨by rw[M.mesh];exact M.one.nd,M.one.p0,M.one.p4,?_⟩
  by_cases h4:g.port=4
  · exact .inl h4
  · exact .inr (by rw[M.mesh];exact(M.one.live h4).1)
theorem Mv.req {n x:Net} {g:Grant} {rest:List Flit} (M:Mv n x g rest):((mvF n g).head=true∧ownAt x g.node g.port (g.input % 2)=-1)∨((mvF n g).head=false∧ownAt x g.node g.port (g.input % 2)=g.input / 2):=by
  rw[M.own]
  have hr:=M.one.req
  unfold requestN at hr
  rw[Bool.and_eq_true,Bool.and_eq_true] at hr
  have h2:=hr.2
  have e:rf (bufOf n g.node g.input) 0=mvF n g:=rfl
  rw[e] at h2
  cases hh:(mvF n g).head
  · rw[if_neg (by simp[hh])] at h2
    exact .inr ⟨rfl,by simpa using h2⟩
  · rw[if_pos hh] at h2
    exact .inl ⟨rfl,by simpa using h2⟩
theorem Mv.head {n x:Net} {g:Grant} {rest:List Flit} (M:Mv n x g rest) (hh:(mvF n g).head=true):entry n.mesh (tabOf n.pa n.pb (g.input % 2)) g.node (mvF n g).dst=g.port:=by
  have h1:=M.one.wants.1
  have h2:=M.one.full
  rw[wanted_2 (a:=g.node) (i:=g.input) h2 hh] at h1
  exact h1
theorem WI_mv {n x:Net} {so si:Int→FS} {ss:Int→FS} {sa:Int→Int→FS} {g:Grant} {rest:List Flit} (M:Mv n x g rest) (h:WI x so si ss sa):WI (specG n x g) (soM so g (mvF n g)) (siM n si g (mvF n g)) ss (saM sa g (mvF n g)):=by
  have hidx:=M.idx
  have one:=M.one
  have hmk:=ok_mesh M.ok
  refine WI_move (n:=n) h (by rw[M.mesh];exact hmk) M.mesh.symm M.opens one.i0 one.i9 (by rw[M.lb];exact hidx.2.1) (by rw[M.lo];exact hidx.2.2.2.2.2) (by rw[M.la];exact hidx.2.2.2.1) (fun h4=>?_) M.hor M.hf rfl M.req (flit_of M.ok one).1
  rw[M.lb]
  exact M.to h4
theorem WX_mv {n x:Net} {so si:Int→FS} {ss:Int→FS} {sa:Int→Int→FS} {g:Grant} {rest:List Flit} (M:Mv n x g rest) (h:WI x so si ss sa) (hx:WX x so si sa):WX (specG n x g) (soM so g (mvF n g)) (siM n si g (mvF n g)) (saM sa g (mvF n g)):=by
 obtain⟨r1,r2,r3,r4,r5,r6,r7⟩:=specG_rest n x g
 obtain⟨b0,b1,n0,n1,g0,g1⟩:=M.idx
 have one:=M.one
 have i0:=one.i0;have i9:=one.i9;have q0:=one.p0;have q4:=one.p4
 have hmk:meshOk x.mesh=true:=by rw[M.mesh];exact ok_mesh M.ok
 have hop:=M.opens
 have hgo:gOwn n g=if (mvF n g).tail=true then -1 else g.input / 2:=rfl
 have how:∀ a p c:Int,0≤a→0≤p→p≤4→0≤c→c≤1→ownAt (specG n x g) a p c=if a=g.node∧p=g.port∧c=g.input % 2 then gOwn n g else ownAt x a p c:=by
  intro a p c a0 p0 p4 c0 c1
  show ri (specG n x g).owners _=_
  rw[r7]
  exact ownAt_set g0 (by rw[M.lo];exact g1) a0 p0 p4 c0 c1 q0 q4
 have hn0:isNode x.mesh.g g.node=true:=by rw[M.mesh];exact one.nd
 refine⟨fun a j c t j0 j4 c0 c1 e=>?_,fun a p c t hp c0 c1 e=>?_,fun a p c ha p0 p4 c0 c1 e=>?_,fun a q c ha p0 p3 c0 c1 e=>?_⟩
 ·rw[r1]
  unfold soM at e
  by_cases eb:10*a+2*j+c=gIdx g
  ·rw[if_pos eb] at e
   have ea:a=g.node∧j=g.input / 2∧c=g.input % 2:=by unfold gIdx at eb;omega
   refine⟨g.port,by rw[ea.1];exact hop,?_⟩
   rw[how a g.port c (by omega) q0 q4 c0 c1,if_pos ⟨ea.1,rfl,ea.2.2⟩,hgo,ea.2.1]
   unfold aft at e
   split at e
   ·cases e
   ·rename_i ht;rw[if_neg ht]
  ·rw[if_neg eb] at e
   obtain⟨p,hp,hj⟩:=hx.cv a j c t j0 j4 c0 c1 e
   refine⟨p,hp,?_⟩
   have:=isNode_iff.1 hp.1
   rw[how a p c this.1 hp.2.1 hp.2.2.1 c0 c1,if_neg,hj]
   intro e2
   apply eb
   rcases M.req with ⟨_,h2⟩|⟨_,h2⟩
   ·rw[←e2.1,←e2.2.1,←e2.2.2,hj] at h2;omega
   ·rw[←e2.1,←e2.2.1,←e2.2.2,hj] at h2
    unfold gIdx;omega
 ·rw[r1] at hp e
  rw[r1,r2,r3]
  rw[dn_M hmk M.mesh.symm hop i0 hp c0 c1] at e
  by_cases e2:a=g.node∧p=g.port∧c=g.input % 2
  ·rw[if_pos e2] at e
   have et:t=fid (mvF n g):=by
    unfold aft at e
    split at e
    ·cases e
    ·exact(Option.some.inj e).symm
   have hfl:=(flit_of M.ok one).2
   unfold flitOk at hfl
   rw[Bool.and_eq_true] at hfl
   refine⟨?_,by rw[et,M.mesh];exact hfl.1⟩
   cases hh:(mvF n g).head
   ·obtain⟨k1,k2⟩:=run_cons (by rw[←M.hf];exact h.buf (gIdx g) b0 (by rw[M.lb];exact b1))
    have h3:=nx_body k1 hh
    have hown:ownAt x g.node g.port (g.input % 2)=g.input / 2:=by
     rcases M.req with ⟨h4,_⟩|⟨_,h4⟩
     ·rw[hh] at h4;cases h4
     ·exact h4
    rcases h.own g.node g.port (g.input % 2) hop (by omega) (by omega) with ⟨o1,o2⟩|⟨s,o1,o2,o3⟩
    ·omega
    ·rw[hown,show 10*g.node+2*(g.input / 2)+g.input % 2=gIdx g by unfold gIdx;omega,h3] at o3
     refine(hx.dr a p c t hp c0 c1 ?_).1
     rw[e2.1,e2.2.1,e2.2.2,o1,←o3,et]
   ·have:=M.head hh
    rw[et,M.mesh,M.pa,M.pb,e2.1,e2.2.1,e2.2.2]
    exact this
  ·rw[if_neg e2] at e
   exact hx.dr a p c t hp c0 c1 e
 ·rw[r1] at ha ⊢
  rw[how a p c (isNode_iff.1 ha).1 p0 p4 c0 c1] at e
  by_cases e2:a=g.node∧p=g.port∧c=g.input % 2
  ·rw[e2.1,e2.2.1];exact hop
  ·rw[if_neg e2] at e
   exact hx.cl a p c ha p0 p4 c0 c1 e
 ·rw[r1] at ha ⊢
  unfold siM at e
  by_cases e2:g.port≠4∧10*a+2*q+c=gTo n g
  ·have hl:=(one.to M.ok e2.1)
   obtain⟨t0,t1,t2,t3,t4,t5,t6⟩:=hl
   have eq:=opp_eq (p:=g.port) q0 (by have:=e2.1;omega)
   have ea:a=nextNode n.mesh.g g.node g.port∧q=opposite g.port∧c=g.input % 2:=by have:=e2.2;omega
   have hgeo:=geo (g:=n.mesh.g) q0 (by have:=e2.1;omega) one.nd t3
   rw[M.mesh,ea.1,ea.2.1,hgeo.2.1,hgeo.2.2.1]
   exact⟨one.nd,(one.live e2.1).1⟩
  ·rw[if_neg e2] at e
   exact hx.bd a q c ha p0 p3 c0 c1 e
theorem WE_step {n:Net} (ok:netOk n=true) (h:WE n):WE (stepN n):=by
  refine step_ind ok WE h (fun g x rest M hw=>?_) (fun a x rest E hw=>?_) (fun x t hw=>?_)
  · obtain⟨so,si,ss,sa,hw,hx⟩:=hw
    exact⟨_,_,_,_,WI_mv M hw,WX_mv M hw hx⟩
  · obtain⟨so,si,ss,sa,hw,hx⟩:=hw
    refine⟨_,_,_,_,WI_enter (n:=n) hw E.a0 (by rw[E.ls];exact E.a1) E.hf rfl E.c0 E.c1 (by rw[E.lb];exact E.t1),⟨hx.cv,fun y p c t hp c0 c1 e=>?_,hx.cl,fun y q c hy q0 q3 c0 c1 e=>?_⟩⟩
    · have e2:(enterB n x a).mesh=x.mesh:=rfl
      rw[e2] at hp e
      rw[dn_E hp c0 c1 rfl E.c0 E.c1] at e
      exact hx.dr y p c t hp c0 c1 e
    · refine hx.bd y q c hy q0 q3 c0 c1 (fun e2=>e ?_)
      have:=E.c0;have:=E.c1
      unfold seM
      rw[if_neg (by unfold eTo;omega)]
      exact e2
  · obtain⟨so,si,ss,sa,hw,hx⟩:=hw
    exact⟨so,si,ss,sa,⟨hw.buf,hw.src,hw.arr,hw.loc,hw.own,hw.uniq⟩,⟨hx.cv,hx.dr,hx.cl,hx.bd⟩⟩
def wk (m:Mesh) (t:List Int) (b:Int):Nat→Int→Option (List Int)
  | 0,_=>none
  | k+1,a=>if entry m t a b=4 then (if a=b then some [] else none)
    else if (inside (entry m t a b) 0 3 && live m (4*a+entry m t a b))=true then (wk m t b k (nextNode m.g a (entry m t a b))).map (fun l=>(4*a+entry m t a b)::l)
    else none
theorem walkF_wk (m:Mesh) (t:List Int) (b:Int):∀ (k:Nat) (a:Int) (out:List Int),walkF m t b k a out=match wk m t b k a with|none=>[]|some l=>out++l:=by
  intro k
  induction k with
  | zero=>intro a out;rfl
  | succ k ih=>
    intro a out
    unfold walkF wk
    by_cases h4:entry m t a b=4
    · rw[if_pos h4,if_pos h4]
      by_cases e:a=b
      · rw[if_pos e,if_pos e];simp
      · rw[if_neg e,if_neg e]
    · rw[if_neg h4,if_neg h4]
      by_cases hi:(inside (entry m t a b) 0 3 && live m (4*a+entry m t a b))=true
      · rw[if_pos hi,if_pos hi,ih]
        cases wk m t b k (nextNode m.g a (entry m t a b)) <;> simp
      · rw[if_neg hi,if_neg hi]
theorem wk_mono (m:Mesh) (t:List Int) (b:Int):∀ (k:Nat) (a:Int) (l:List Int),wk m t b k a=some l→wk m t b (k+1) a=some l:=by
  intro k
  induction k with
  | zero=>intro a l h;cases h
  | succ k ih=>
    intro a l h
    unfold wk at h ⊢
    by_cases h4:entry m t a b=4
    · rw[if_pos h4] at h ⊢;exact h
    · rw[if_neg h4] at h ⊢
      by_cases hi:(inside (entry m t a b) 0 3 && live m (4*a+entry m t a b))=true
      · rw[if_pos hi] at h ⊢
        cases e:wk m t b k (nextNode m.g a (entry m t a b)) with
        | none=>rw[e] at h;cases h
        | some l'=>rw[e] at h;rw[ih _ _ e];exact h
      · rw[if_neg hi] at h;cases h
theorem wk_len (m:Mesh) (t:List Int) (b:Int):∀ (k:Nat) (a:Int) (l:List Int),wk m t b k a=some l→l.length<k:=by
  intro k
  induction k with
  | zero=>intro a l h;cases h
  | succ k ih=>
    intro a l h
    unfold wk at h
    by_cases h4:entry m t a b=4
    · rw[if_pos h4] at h
      split at h
      · cases h;simp
      · cases h
    · rw[if_neg h4] at h
      by_cases hi:(inside (entry m t a b) 0 3 && live m (4*a+entry m t a b))=true
      · rw[if_pos hi] at h
        cases e:wk m t b k (nextNode m.g a (entry m t a b)) with
        | none=>rw[e] at h;cases h
        | some l'=>
          rw[e] at h
          have:=ih _ _ e
          cases h
          simp only[List.length_cons]
          omega
      · rw[if_neg hi] at h;cases h
theorem table_at {m:Mesh} {t:List Int} {a b:Int} (h:tableOk m t=true) (ha:isNode m.g a=true) (hb:isNode m.g b=true):(a=b→entry m t a a=4)∧(a≠b→0<(walk m t a b).length):=by
  simp only[tableOk,Bool.and_eq_true] at h
  have ha':=isNode_iff.1 ha
  have hb':=isNode_iff.1 hb
  have h2:=allI_iff.1 (allI_iff.1 h.2 a.toNat (by omega)) b.toNat (by omega)
  rw[Int.toNat_of_nonneg ha'.1,Int.toNat_of_nonneg hb'.1] at h2
  by_cases e:a=b
  · subst e
    rw[if_pos rfl,beq_iff_eq] at h2
    exact⟨fun _=>h2,fun e=>absurd rfl e⟩
  · rw[if_neg (by omega),decide_eq_true_eq] at h2
    exact⟨fun e2=>absurd e2 e,fun _=>h2⟩
theorem wk_ok {m:Mesh} {t:List Int} {a b:Int} (h:tableOk m t=true) (ha:isNode m.g a=true) (hb:isNode m.g b=true):wk m t b ((nodeCount m.g).toNat+1) a=some (walk m t a b):=by
  obtain⟨h1,h2⟩:=table_at h ha hb
  have hw:walk m t a b=match wk m t b ((nodeCount m.g).toNat+1) a with|none=>[]|some l=>[]++l:=walkF_wk m t b _ a []
  cases e:wk m t b ((nodeCount m.g).toNat+1) a with
  | none=>
    rw[e] at hw
    by_cases hab:a=b
    · subst hab
      unfold wk at e
      rw[if_pos (h1 rfl),if_pos rfl] at e
      cases e
    · have:=h2 hab
      rw[hw] at this
      simp at this
  | some l=>
    rw[e] at hw
    rw[hw]
    simp
structure Hop (m:Mesh) (t:List Int) (a b:Int):Prop where
  p0:0≤entry m t a b
  p3:entry m t a b≤3
  lv:live m (4*a+entry m t a b)=true
  nd:isNode m.g (nextNode m.g a (entry m t a b))=true
  wk:walk m t a b=(4*a+entry m t a b)::walk m t (nextNode m.g a (entry m t a b)) b
theorem table_mesh {m:Mesh} {t:List Int} (h:tableOk m t=true):meshOk m=true:=by
  simp only[tableOk,Bool.and_eq_true] at h
  exact(sized_iff.1 h.1).1
theorem hop {m:Mesh} {t:List Int} {a b:Int} (h:tableOk m t=true) (ha:isNode m.g a=true) (hb:isNode m.g b=true) (hne:a≠b):Hop m t a b:=by
  have e:=wk_ok h ha hb
  have e':=e
  unfold NoC.wk at e
  by_cases h4:entry m t a b=4
  · rw[if_pos h4,if_neg hne] at e;cases e
  · rw[if_neg h4] at e
    by_cases hi:(inside (entry m t a b) 0 3 && live m (4*a+entry m t a b))=true
    · rw[if_pos hi] at e
      rw[Bool.and_eq_true,inside_iff] at hi
      have nd:=next_live hi.1.1 hi.1.2 (table_mesh h) hi.2
      cases e2:NoC.wk m t b (nodeCount m.g).toNat (nextNode m.g a (entry m t a b)) with
      | none=>rw[e2] at e;cases e
      | some l=>
        rw[e2] at e
        have e3:=wk_mono m t b _ _ _ e2
        rw[wk_ok h nd hb] at e3
        refine⟨hi.1.1,hi.1.2,hi.2,nd,?_⟩
        have e4:(4*a+entry m t a b)::l=walk m t a b:=Option.some.inj e
        rw[←e4,Option.some.inj e3]
    · rw[if_neg hi] at e;cases e
theorem hop_end {m:Mesh} {t:List Int} {a:Int} (h:tableOk m t=true) (ha:isNode m.g a=true):entry m t a a=4∧walk m t a a=[]:=by
  have h1:=(table_at h ha ha).1 rfl
  refine⟨h1,?_⟩
  unfold walk walkF
  rw[if_pos h1,if_pos rfl]
theorem hop_four {m:Mesh} {t:List Int} {a b:Int} (h:tableOk m t=true) (ha:isNode m.g a=true) (hb:isNode m.g b=true):entry m t a b=4↔a=b:=by
  constructor
  · intro e
    by_cases hne:a=b
    · exact hne
    · have:=(hop h ha hb hne).p3
      omega
  · rintro rfl
    exact(hop_end h ha).1
theorem walk_le {m:Mesh} {t:List Int} {a b:Int} (h:tableOk m t=true) (ha:isNode m.g a=true) (hb:isNode m.g b=true):(walk m t a b).length≤16:=by
  have:=wk_len m t b _ _ _ (wk_ok h ha hb)
  have:=count_le m.g
  omega
theorem hop_len {m:Mesh} {t:List Int} {a b:Int} (h:tableOk m t=true) (ha:isNode m.g a=true) (hb:isNode m.g b=true) (hne:a≠b):(walk m t a b).length=(walk m t (nextNode m.g a (entry m t a b)) b).length+1:=by
  rw[(hop h ha hb hne).wk]
  rfl
theorem front {n:Net} {so si:Int→FS} {ss:Int→FS} {sa:Int→Int→FS} (hw:WI n so si ss sa) (hx:WX n so si sa) {a i:Int} (h:At n a i) (h0:0<(bufOf n a i).length) :
    wantedN n a i=entry n.mesh (tabOf n.pa n.pb (i % 2)) a (rf (bufOf n a i) 0).dst∧((rf (bufOf n a i) 0).head=false→ownAt n a (wantedN n a i) (i % 2)=i / 2)∧nx (so (10*a+i)) (rf (bufOf n a i) 0)=some (aft (rf (bufOf n a i) 0)):=by
  have i0:=h.i0;have i9:=h.i9
  obtain⟨x0,x1,x2,x3,_⟩:=h.idx
  obtain⟨f,rest,hf⟩:∃ f rest,rl n.bufs (10*a+i)=f::rest:=by
    cases e:rl n.bufs (10*a+i) with
    | nil=>unfold bufOf at h0;rw[e] at h0;simp at h0
    | cons f r=>exact⟨f,r,rfl⟩
  have e0:rf (bufOf n a i) 0=f:=by unfold bufOf;rw[hf];rfl
  obtain⟨r1,_⟩:=run_cons (by rw[←hf];exact hw.buf (10*a+i) x2 x3)
  rw[e0]
  have eb:10*a+2*(i / 2)+i % 2=10*a+i:=by omega
  cases hh:f.head
  · have hso:=nx_body r1 hh
    obtain⟨p,hp,hown⟩:=hx.cv a (i / 2) (i % 2) (fid f) (by omega) (by omega) (by omega) (by omega) (by rw[eb];exact hso)
    obtain⟨_,p0,p4,_⟩:=id hp
    have hop:ownPort n a i=p:=by
      have:=ownPort_yes (n:=n) (a:=a) (i:=i) p.toNat (by omega) (by rw[Int.toNat_of_nonneg p0];exact hown) (fun j hj e=>by
        have ho:=hx.cl a (j:Int) (i % 2) h.nd (by omega) (by omega) (by omega) (by omega) (by omega)
        have:=hw.uniq a (j:Int) p (i % 2) ho hp (by omega) (by omega) (by omega) (by rw[e,hown])
        omega)
      rw[this];omega
    have hwd:wantedN n a i=p:=by rw[wanted_3 h0 (by rw[e0];exact hh),hop]
    refine⟨?_,fun _=>by rw[hwd];exact hown,r1⟩
    rw[hwd]
    rcases hw.own a p (i % 2) hp (by omega) (by omega) with ⟨o1,_⟩|⟨s,o1,o2,o3⟩
    · omega
    · rw[hown,eb,hso] at o3
      have:=(hx.dr a p (i % 2) s hp (by omega) (by omega) o1).1
      rw[←Option.some.inj o3] at this
      exact this.symm
  · refine⟨?_,fun e=>(by cases e),r1⟩
    have:=wanted_2 h0 (by rw[e0];exact hh)
    rw[e0] at this
    exact this
theorem grant_entry {n:Net} (ok:netOk n=true) (hE:WE n) {g:Grant} (hg:g∈allGrants n):entry n.mesh (tabOf n.pa n.pb (g.input % 2)) g.node (mvF n g).dst=g.port:=by
  obtain⟨so,si,ss,sa,hw,hx⟩:=hE
  have one:=grants_one hg
  have:=(front hw hx (one.at ok) one.full).1
  rw[one.wants.1] at this
  exact this.symm
theorem requests_of {n:Net} {a i p:Int} (i0:0≤i) (i9:i≤9) (p0:0≤p) (p4:p≤4) (h:requestN n a i p=true):i∈requestsN n a p:=by
  unfold requestsN requestsTo
  obtain⟨k,rfl⟩:∃ k:Nat,i=k:=⟨i.toNat,by omega⟩
  refine List.mem_map.2 ⟨k,List.mem_filter.2 ⟨List.mem_range.2 (by omega),?_⟩,rfl⟩
  rw[reqI_in p0 p4]
  exact h
theorem firstTo_some {l:List Int} {turn:Int} (h:smallL l):∀ k,0<k→k≤l.length→0≤firstTo l turn k:=by
  intro k
  induction k with
  | zero=>intro h;omega
  | succ k ih=>
    intro _ hk
    have h2:=h k (by omega)
    rw[firstTo_succ l turn k (by omega)]
    unfold better
    split
    · exact h2.1
    · split
      · exact h2.1
      · omega
theorem gst_keeps (n:Net) (a:Int):∀ p:Nat,(gst n a p).2≠[]→(gst n a (p+1)).2≠[]:=by
  intro p h
  rw[gst]
  split
  · simp
  · exact h
theorem grants_some {n:Net} {a i p:Int} (i0:0≤i) (i9:i≤9) (p0:0≤p) (p4:p≤4) (h:requestN n a i p=true):grantsN n a≠[]:=by
  intro he
  have back:∀ k:Nat,k≤5→(gst n a k).2=[]:=by
    have:∀ j k:Nat,k+j=5→(gst n a k).2=[]:=by
      intro j
      induction j with
      | zero=>intro k hk;obtain rfl:k=5:=(by omega);exact he
      | succ j ih=>
        intro k hk
        have h1:=ih (k+1) (by omega)
        cases e:(gst n a k).2 with
        | nil=>rfl
        | cons x xs=>exact absurd h1 (gst_keeps n a k (by rw[e];simp))
    exact fun k hk=>this (5 - k) k (by omega)
  have us:∀ k:Nat,k≤5→(gst n a k).1=[false,false,false,false,false]:=by
    intro k
    induction k with
    | zero=>intro _;rfl
    | succ k ih=>
      intro hk
      have h1:=back (k+1) hk
      rw[gst] at h1 ⊢
      split at h1
      · simp at h1
      · rename_i hn
        rw[if_neg hn]
        exact ih (by omega)
  obtain⟨q,rfl⟩:∃ q:Nat,p=q:=⟨p.toNat,by omega⟩
  have h1:=back (q+1) (by omega)
  rw[gst] at h1
  have hl:i∈leftOf n a q (gst n a q).1:=by
    unfold leftOf
    rw[us q (by omega)]
    refine List.mem_filter.2 ⟨requests_of i0 i9 p0 p4 h,?_⟩
    have:∀ k:Nat,k≤4→([false,false,false,false,false]:List Bool).getD k false=false:=by
      intro k hk
      rcases (by omega:k=0∨k=1∨k=2∨k=3∨k=4) with rfl|rfl|rfl|rfl|rfl <;> rfl
    unfold keepU usedAt
    rw[this _ (by omega)]
    rfl
  have hp:0≤pick n a q (gst n a q).1:=firstTo_some (smallL_mem (left_small n a q _)) _ (List.length_pos_of_mem hl) (Nat.le_refl _)
  rw[if_pos hp] at h1
  simp at h1
theorem grants_all {n:Net} {a:Int} (ha:isNode n.mesh.g a=true) {g:Grant} (h:g∈grantsN n a):g∈allGrants n:=by
  have h1:=isNode_iff.1 ha
  unfold allGrants allTo joinI
  refine List.mem_flatMap.2 ⟨a.toNat,List.mem_range.2 (by omega),?_⟩
  rw[Int.toNat_of_nonneg h1.1]
  exact h
theorem owner_range {n:Net} {a i:Int} (h:At n a i) {p c:Int} (h0:0≤p) (h4:p≤4) (c0:0≤c) (c1:c≤1):-1≤ownAt n a p c∧ownAt n a p c≤4:=by
  obtain⟨_,h1,h2,h3,_,_,_,_,ho,_⟩:=netOk_parts h.ok
  have h5:=isNode_iff.1 h.nd
  have h6:=ho (10*a+2*p+c).toNat (by omega)
  rw[Int.toNat_of_nonneg (by omega),inside_iff] at h6
  exact h6
structure Stk (n:Net) (so si:Int→FS) (ss:Int→FS) (sa:Int→Int→FS):Prop where
  ok:netOk n=true
  hw:WI n so si ss sa
  hx:WX n so si sa
  gr:allGrants n=[]
  en:enteringN n=[]
section
variable {n:Net} {so si:Int→FS} {ss:Int→FS} {sa:Int→Int→FS}
theorem Stk.req (S:Stk n so si ss sa) {a i p:Int} (ha:isNode n.mesh.g a=true) (i0:0≤i) (i9:i≤9) (p0:0≤p) (p4:p≤4):requestN n a i p=false:=by
  cases h:requestN n a i p
  · rfl
  · have h1:=grants_some i0 i9 p0 p4 h
    cases e:grantsN n a with
    | nil=>exact absurd e h1
    | cons g gs=>
      have:=grants_all ha (g:=g) (by rw[e];simp)
      rw[S.gr] at this
      cases this
theorem Stk.enter (S:Stk n so si ss sa) {a:Int} (a0:0≤a) (a1:a<(n.srcs.length:Int)) (h:0<(rl n.srcs a).length):3≤(rl n.bufs (10*a+8+(rf (rl n.srcs a) 0).cls)).length:=by
  obtain⟨k,rfl⟩:∃ k:Nat,a=k:=⟨a.toNat,by omega⟩
  rcases Nat.lt_or_ge (rl n.bufs (10*(k:Int)+8+(rf (rl n.srcs (k:Int)) 0).cls)).length 3 with h3|h3
  · exfalso
    have he:enters n k=true:=by unfold enters;rw[decide_eq_true h,decide_eq_true h3];rfl
    have:(k:Int)∈enteringN n:=List.mem_map.2 ⟨k,List.mem_filter.2 ⟨List.mem_range.2 (by omega),he⟩,rfl⟩
    rw[S.en] at this
    cases this
  · exact h3
theorem bufs_lt (ok:netOk n=true) {a b:Int} (ha:isNode n.mesh.g a=true) (b0:0≤b) (b9:b≤9):10*a+b<(n.bufs.length:Int):=by
  obtain⟨_,e1,_⟩:=netOk_parts ok
  have:=isNode_iff.1 ha
  omega
theorem Stk.body (S:Stk n so si ss sa) {a p c:Int} {t:Int × Int × Int} (hp:opens n.mesh a p) (c0:0≤c) (c1:c≤1) (hd:dn n.mesh si sa a p c=some t) (hne:0<(rl n.bufs (10*a+2*ownAt n a p c+c)).length):roomN n a p c=false:=by
  rcases S.hw.own a p c hp c0 c1 with ⟨_,o2⟩|⟨s,o1,o2,o3⟩
  · rw[o2] at hd;cases hd
  · rw[hd] at o1
    obtain rfl:=Option.some.inj o1
    have or:=owner_range (i:=0) ⟨S.ok,hp.1,by omega,by omega⟩ hp.2.1 hp.2.2.1 c0 c1
    obtain⟨q,hq⟩:∃ q,ownAt n a p c=q:=⟨_,rfl⟩
    rw[hq] at o2 o3 or hne
    have hA:At n a (2*q+c):=⟨S.ok,hp.1,by omega,by omega⟩
    have e1:(2*q+c) % 2=c:=by omega
    have e2:(2*q+c) / 2=q:=by omega
    have e3:10*a+(2*q+c)=10*a+2*q+c:=by omega
    have h0:0<(bufOf n a (2*q+c)).length:=by unfold bufOf;rw[e3];exact hne
    obtain⟨f1,f2,f3⟩:=front S.hw S.hx hA h0
    rw[e3,o3] at f3
    rw[e1] at f1 f2
    have hh:(rf (bufOf n a (2*q+c)) 0).head=false:=by
      cases hh:(rf (bufOf n a (2*q+c)) 0).head
      · rfl
      · have:=nx_head f3 hh;cases this
    have ht:fid (rf (bufOf n a (2*q+c)) 0)=t:=(Option.some.inj (nx_body f3 hh)).symm
    have hdr:=(S.hx.dr a p c t hp c0 c1 hd).1
    have hwp:wantedN n a (2*q+c)=p:=by rw[f1,←hdr,←ht];rfl
    cases hr:roomN n a p c
    · rfl
    · have hreq:=request_2 (i:=2*q+c) hwp (by rw[e1];exact hr) hh
      rw[e1,e2,hq] at hreq
      rw[S.req hp.1 (by omega) (by omega) hp.2.1 hp.2.2.1] at hreq
      simp at hreq
theorem room_empty (ok:netOk n=true) {a p c:Int} (hp:opens n.mesh a p) (p4:¬ p=4) (h:rl n.bufs (behindI n a p c)=[]):roomN n a p c=true:=by
  rw[room_yes (by have:=hp.2.2.1;omega) (hp.2.2.2.resolve_left p4),h]
  rfl
theorem Stk.owner (S:Stk n so si ss sa):∀ (k:Nat) (a p c:Int) (t:Int × Int × Int),opens n.mesh a p→0≤c→c≤1→dn n.mesh si sa a p c=some t→17≤k+(walk n.mesh (tabOf n.pa n.pb c) a t.2.1).length→0<(rl n.bufs (10*a+2*ownAt n a p c+c)).length:=by
 intro k
 induction k with
 | zero=>
  intro a p c t hp c0 c1 hd hk
  have:=walk_le (ok_tab S.ok c) hp.1 (S.hx.dr a p c t hp c0 c1 hd).2
  omega
 | succ k ih=>
  intro a p c t hp c0 c1 hd hk
  obtain⟨hdr,hdn⟩:=S.hx.dr a p c t hp c0 c1 hd
  rcases S.hw.own a p c hp c0 c1 with ⟨_,o2⟩|⟨s,o1,o2,o3⟩
  ·rw[o2] at hd;cases hd
  ·rw[hd] at o1
   obtain rfl:=Option.some.inj o1
   have or:=owner_range (i:=0) ⟨S.ok,hp.1,by omega,by omega⟩ hp.2.1 hp.2.2.1 c0 c1
   obtain⟨q,hq⟩:∃ q,ownAt n a p c=q:=⟨_,rfl⟩
   rw[hq] at o2 o3 or ⊢
   rcases Nat.eq_zero_or_pos (rl n.bufs (10*a+2*q+c)).length with h0|h0
   ·exfalso
    have he:rl n.bufs (10*a+2*q+c)=[]:=List.eq_nil_of_length_eq_zero h0
    have a0:=isNode_iff.1 hp.1
    have b1:10*a+2*q+c<(n.bufs.length:Int):=by
     have:=bufs_lt S.ok hp.1 (b:=2*q+c) (by omega) (by omega)
     omega
    have hb:=S.hw.buf (10*a+2*q+c) (by omega) b1
    rw[he,o3] at hb
    have hsi:si (10*a+2*q+c)=some t:=(Option.some.inj hb).symm
    by_cases q4:q=4
    ·subst q4
     have hl:=S.hw.loc a c a0.1 c0 c1
     rw[show 10*a+8+c=10*a+2*4+c by omega,hsi] at hl
     have hst:ss a=some t∧t.2.2=c:=by
      unfold lcl at hl
      split at hl
      ·rename_i t2 e2
       split at hl
       ·rename_i e3
        have:=Option.some.inj hl
        subst this
        exact⟨e2,e3⟩
       ·cases hl
      ·cases hl
     obtain⟨_,_,_,_,hsl,_⟩:=netOk_parts S.ok
     have hsr:=S.hw.src a a0.1 (by omega)
     rw[hst.1] at hsr
     cases e:rl n.srcs a with
     | nil=>rw[e] at hsr;cases hsr
     | cons f r=>
      rw[e] at hsr
      obtain⟨r1,_⟩:=run_cons hsr
      have hh:f.head=false:=by
       cases hh:f.head
       ·rfl
       ·have:=nx_head r1 hh;cases this
      have hf:=Option.some.inj (nx_body r1 hh)
      have hc:f.cls=c:=by rw[←hst.2,hf];rfl
      have:=S.enter a0.1 (by omega) (by rw[e];simp)
      rw[e] at this
      have e5:(rf (f::r) 0)=f:=rfl
      rw[e5,hc,show 10*a+8+c=10*a+2*4+c by omega,he] at this
      simp at this
    ·have hbd:=S.hx.bd a q c hp.1 (by omega) (by omega) c0 c1 (by rw[hsi];simp)
     obtain⟨hu,hl⟩:=hbd
     have hu':=isNode_iff.1 hu
     have hgeo:=geo (g:=n.mesh.g) (by omega) (by omega) hp.1 hu'.1
     obtain⟨_,g2,g3,g4,g5,g6⟩:=hgeo
     obtain⟨u,hue⟩:∃ u,nextNode n.mesh.g a q=u:=⟨_,rfl⟩
     rw[hue] at hu hu' hl g2 g4
     have hop:opens n.mesh u (opposite q):=⟨hu,g5,by omega,.inr hl⟩
     have hdu:dn n.mesh si sa u (opposite q) c=some t:=by
      unfold dn
      rw[if_neg (by omega),g2,g3]
      exact hsi
     obtain⟨d1,d2⟩:=S.hx.dr u (opposite q) c t hop c0 c1 hdu
     have hne:u≠t.2.1:=fun e=>by
      have:=(hop_four (ok_tab S.ok c) hu d2).2 e
      omega
     have hlen:=hop_len (ok_tab S.ok c) hu d2 hne
     rw[d1,g2] at hlen
     have h1:=ih u (opposite q) c t hop c0 c1 hdu (by omega)
     have h2:=S.body hop c0 c1 hdu h1
     have h3:=room_empty S.ok hop (by omega) (c:=c) (by unfold behindI;rw[g2,g3];exact he)
     rw[h2] at h3
     cases h3
   ·exact h0
theorem Stk.full (S:Stk n so si ss sa) {a p c:Int} {t:Int × Int × Int} (hp:opens n.mesh a p) (c0:0≤c) (c1:c≤1) (hd:dn n.mesh si sa a p c=some t):roomN n a p c=false:=
  S.body hp c0 c1 hd (S.owner 17 a p c t hp c0 c1 hd (by omega))
structure Waits (n:Net) (a i p:Int):Prop where
  p0:0≤p
  p3:p≤3
  want:wantedN n a i=p
  ent:entry n.mesh (tabOf n.pa n.pb (i % 2)) a (rf (bufOf n a i) 0).dst=p
  lv:live n.mesh (4*a+p)=true
  room:roomN n a p (i % 2)=false
  full:3≤(rl n.bufs (behindI n a p (i % 2))).length
theorem Stk.waits (S:Stk n so si ss sa) {a i:Int} (h:At n a i) (h0:0<(bufOf n a i).length):Waits n a i (wantedN n a i):=by
  have i0:=h.i0;have i9:=h.i9
  obtain⟨f1,f2,f3⟩:=front S.hw S.hx h h0
  have hdst:=(h.buf0 h0).1
  have ht:=ok_tab S.ok (i % 2)
  obtain⟨p,hwp⟩:∃ p,wantedN n a i=p:=⟨_,rfl⟩
  rw[hwp] at f1 f2 ⊢
  have hr:p≤4∧0≤p∧(p=4∨live n.mesh (4*a+p)=true):=by
    by_cases e:a=(rf (bufOf n a i) 0).dst
    · have:=(hop_four ht h.nd hdst).2 e
      rw[←f1] at this
      omega
    · have:=hop ht h.nd hdst e
      rw[f1]
      exact⟨by have:=this.p3;omega,this.p0,.inr this.lv⟩
  have hop:opens n.mesh a p:=⟨h.nd,hr.2.1,hr.1,hr.2.2⟩
  have hroom:roomN n a p (i % 2)=false:=by
    cases hh:(rf (bufOf n a i) 0).head
    · have ho:=f2 hh
      rcases S.hw.own a p (i % 2) hop (by omega) (by omega) with ⟨o1,_⟩|⟨s,o1,o2,o3⟩
      · omega
      · exact S.full hop (by omega) (by omega) o1
    · cases hr2:roomN n a p (i % 2)
      · rfl
      · have hreq:=request_1 (i:=i) hwp hr2 hh
        rw[S.req h.nd i0 i9 hr.2.1 hr.1] at hreq
        rcases S.hw.own a p (i % 2) hop (by omega) (by omega) with ⟨o1,_⟩|⟨s,o1,o2,o3⟩
        · rw[o1] at hreq;cases hreq
        · rw[S.full hop (by omega) (by omega) o1] at hr2
          cases hr2
  have p4:¬ p=4:=fun e=>by rw[e] at hroom;cases hroom
  have hl:=hr.2.2.resolve_left p4
  refine⟨hr.2.1,by omega,hwp,f1.symm,hl,hroom,?_⟩
  rw[room_yes (by omega) hl,decide_eq_false_iff_not] at hroom
  omega
end
end NoC
namespace Go.Proofs.YtodbglncccgdbaaGreat
open NoC
def LC (n:Net):Prop:=∀ (a q c:Int) (f:Flit),isNode n.mesh.g a=true→0≤q→q≤3→0≤c→c≤1→f∈rl n.bufs (10*a+2*q+c)→isNode n.mesh.g (nextNode n.mesh.g a q)=true∧entry n.mesh (tabOf n.pa n.pb c) (nextNode n.mesh.g a q) f.dst=opposite q
theorem LC_step {n:Net} (ok:netOk n=true) (hE:WE n) (h:LC n):LC (stepN n):=by
  have:=step_ind ok (fun x=>(x.mesh=n.mesh∧x.pa=n.pa∧x.pb=n.pb)∧LC x) ⟨⟨rfl,rfl,rfl⟩,h⟩ (fun g x rest M hp=>?_) (fun y x rest E hp=>?_) (fun x t hp=>hp)
  · exact this.2
  · obtain⟨⟨e1,e2,e3⟩,hl⟩:=hp
    obtain⟨r1,r2,r3,r4,r5,r6,r7⟩:=specG_rest n x g
    refine⟨⟨r1.trans e1,r2.trans e2,r3.trans e3⟩,fun a q c f ha q0 q3 c0 c1 hf=>?_⟩
    rw[r1] at ha
    rw[r1,r2,r3]
    have ha':=isNode_iff.1 ha
    rw[specG_bufs M _ (by omega)] at hf
    rcases List.mem_append.1 hf with hf|hf
    · refine hl a q c f ha q0 q3 c0 c1 ?_
      split at hf
      · rename_i e
        rw[e,M.hf]
        exact List.mem_cons_of_mem _ hf
      · exact hf
    · split at hf
      · rename_i e
        rw[List.mem_singleton.1 hf]
        have one:=M.one
        have i0:=one.i0
        have p0:=one.p0
        obtain⟨t0,t1,t2,t3,t4,t5,t6⟩:=one.to M.ok e.1
        have p3:g.port≤3:=by have:=one.p4;have:=e.1;omega
        have hgeo:=geo (g:=n.mesh.g) p0 p3 one.nd t3
        have ea:a=nextNode n.mesh.g g.node g.port∧q=opposite g.port∧c=g.input % 2:=by have:=e.2;omega
        rw[e1,e2,e3,ea.1,ea.2.1,ea.2.2,hgeo.2.1,hgeo.2.2.1]
        exact⟨one.nd,grant_entry ok hE M.mem⟩
      · cases hf
  · obtain⟨hq,hl⟩:=hp
    refine⟨hq,fun a q c f ha q0 q3 c0 c1 hf=>?_⟩
    have ha':=isNode_iff.1 ha
    rw[enterB_bufs E _ (by omega)] at hf
    rcases List.mem_append.1 hf with hf|hf
    · exact hl a q c f ha q0 q3 c0 c1 hf
    · have:=E.c0;have:=E.c1
      rw[if_neg (by unfold eTo;omega)] at hf
      cases hf
theorem tot_some {l:List (List Flit)}:∀ k,totTo l k≠0→∃ i:Nat,i<k∧0<(rl l (i:Int)).length:=by
  intro k
  induction k with
  | zero=>intro h;exact absurd rfl h
  | succ k ih=>
    intro h
    rw[totTo] at h
    by_cases e:totTo l k=0
    · exact⟨k,by omega,by omega⟩
    · obtain⟨i,hi,h1⟩:=ih e
      exact⟨i,by omega,h1⟩
theorem Stk.some {n:Net} {so si:Int→FS} {ss:Int→FS} {sa:Int→Int→FS} (S:Stk n so si ss sa) (h:idleN n=false):∃ a i,At n a i∧0<(bufOf n a i).length:=by
  have hb:(∃ i:Nat,i<n.bufs.length∧0<(rl n.bufs (i:Int)).length)→∃ a i,At n a i∧0<(bufOf n a i).length:=by
    rintro ⟨i,hi,h1⟩
    obtain⟨_,e1,_⟩:=netOk_parts S.ok
    refine⟨(i:Int) / 10,(i:Int) % 10,⟨S.ok,isNode_iff.2 ⟨by omega,by omega⟩,by omega,by omega⟩,?_⟩
    unfold bufOf
    rw[show 10*((i:Int) / 10)+(i:Int) % 10=i by omega]
    exact h1
  apply hb
  unfold idleN at h
  by_cases e:totTo n.bufs n.bufs.length=0
  · have e2:totTo n.srcs n.srcs.length≠0:=fun e2=>by rw[decide_eq_true e,decide_eq_true e2] at h;cases h
    obtain⟨k,hk,h1⟩:=tot_some _ e2
    have h3:=S.enter (a:=k) (by omega) (by omega) h1
    obtain⟨_,_,_,hcl⟩:=src_buf S.ok k hk
    obtain⟨d0,d1,d2⟩:=hcl h1
    refine⟨(10*(k:Int)+8+(rf (rl n.srcs (k:Int)) 0).cls).toNat,by omega,?_⟩
    rw[Int.toNat_of_nonneg (by omega)]
    omega
  · exact tot_some _ e
structure Ranks (m:Mesh) (pa pb:List Int) (ρ:Int→Int→Int→Nat) (R:Nat):Prop where
  le:∀ c a p,ρ c a p≤R
  up:∀ c u d:Int,0≤c→c≤1→isNode m.g u=true→isNode m.g d=true→entry m (tabOf pa pb c) u d≠4→entry m (tabOf pa pb c) (nextNode m.g u (entry m (tabOf pa pb c) u d)) d≠4 →
    ρ c u (entry m (tabOf pa pb c) u d)<ρ c (nextNode m.g u (entry m (tabOf pa pb c) u d)) (entry m (tabOf pa pb c) (nextNode m.g u (entry m (tabOf pa pb c) u d)) d)
def val (n:Net) (ρ:Int→Int→Int→Nat) (a i:Int):Nat:=if i / 2=4 then 0 else ρ (i % 2) (nextNode n.mesh.g a (i / 2)) (opposite (i / 2))+1
theorem no_wait {n:Net} {so si:Int→FS} {ss:Int→FS} {sa:Int→Int→FS} (S:Stk n so si ss sa) (hl:LC n) {ρ:Int→Int→Int→Nat} {R:Nat} (hR:Ranks n.mesh n.pa n.pb ρ R):∀ (k:Nat) (a i:Int),At n a i→0<(bufOf n a i).length→R+2≤k+val n ρ a i→False:=by
  intro k
  induction k with
  | zero=>
    intro a i h h0 hk
    unfold val at hk
    split at hk
    · omega
    · have:=hR.le (i % 2) (nextNode n.mesh.g a (i / 2)) (opposite (i / 2))
      omega
  | succ k ih=>
    intro a i h h0 hk
    have i0:=h.i0;have i9:=h.i9
    have W:=S.waits h h0
    obtain⟨p,hp⟩:∃ p,wantedN n a i=p:=⟨_,rfl⟩
    rw[hp] at W
    obtain⟨b1,b2,b3,b4,b5,b6,b7⟩:=behind_idx (c:=i % 2) S.ok W.p0 W.p3 W.lv (by omega) (by omega)
    have hgeo:=geo (g:=n.mesh.g) W.p0 W.p3 h.nd b2
    have hA:At n (nextNode n.mesh.g a p) (2*opposite p+i % 2):=⟨S.ok,b1,by omega,by omega⟩
    have e1:(2*opposite p+i % 2) / 2=opposite p:=by omega
    have e2:(2*opposite p+i % 2) % 2=i % 2:=by omega
    refine ih _ _ hA (by unfold bufOf;rw[show 10*nextNode n.mesh.g a p+(2*opposite p+i % 2)=behindI n a p (i % 2) by unfold behindI;omega];have:=W.full;omega) ?_
    have hv:val n ρ (nextNode n.mesh.g a p) (2*opposite p+i % 2)=ρ (i % 2) a p+1:=by
      unfold val
      rw[e1,e2,if_neg (by omega),hgeo.2.1,hgeo.2.2.1]
    rw[hv]
    unfold val at hk
    split at hk
    · omega
    · rename_i hq
      have hmem:(rf (bufOf n a i) 0)∈rl n.bufs (10*a+2*(i / 2)+i % 2):=by
        rw[show 10*a+2*(i / 2)+i % 2=10*a+i by omega]
        have:=rf_get (bufOf n a i) 0 h0
        rw[show rf (bufOf n a i) 0=(bufOf n a i)[0] from this]
        exact List.getElem_mem h0
      obtain⟨l1,l2⟩:=hl a (i / 2) (i % 2) _ h.nd (by omega) (by omega) (by omega) (by omega) hmem
      have l1':=isNode_iff.1 l1
      have hg2:=geo (g:=n.mesh.g) (p:=i / 2) (by omega) (by omega) h.nd l1'.1
      have hu:=hR.up (i % 2) (nextNode n.mesh.g a (i / 2)) (rf (bufOf n a i) 0).dst (by omega) (by omega) l1 (h.buf0 h0).1 (by rw[l2];omega)
      rw[l2,hg2.2.1,W.ent] at hu
      have:=hu (by have:=W.p3;omega)
      omega
theorem moves_some {n:Net} (ok:netOk n=true) (hE:WE n) (hl:LC n) {ρ:Int→Int→Int→Nat} {R:Nat} (hR:Ranks n.mesh n.pa n.pb ρ R) (h:movesV n=0):idleN n=true:=by
  cases hi:idleN n
  · exfalso
    obtain⟨so,si,ss,sa,hw,hx⟩:=hE
    have hm:allGrants n=[]∧enteringN n=[]:=by
      unfold movesV at h
      exact⟨List.eq_nil_of_length_eq_zero (by omega),List.eq_nil_of_length_eq_zero (by omega)⟩
    have S:Stk n so si ss sa:=⟨ok,hw,hx,hm.1,hm.2⟩
    obtain⟨a,i,hA,h0⟩:=Stk.some S hi
    exact no_wait S hl hR (R+2) a i hA h0 (by omega)
  · rfl
end Go.Proofs.YtodbglncccgdbaaGreat
namespace NoC
def wF (ω:Flit→Nat) (l:List Flit):Nat:=(l.map ω).sum
theorem wF_app (ω:Flit→Nat) (l r:List Flit):wF ω (l++r)=wF ω l+wF ω r:=by simp[wF]
theorem wF_cons (ω:Flit→Nat) (f:Flit) (l:List Flit):wF ω (f::l)=ω f+wF ω l:=by simp[wF]
theorem wF_one (ω:Flit→Nat) (f:Flit):wF ω [f]=ω f:=by simp[wF]
def wTo (ω:Int→Flit→Nat) (l:List (List Flit)):Nat→Nat
  | 0=>0
  | k+1=>wTo ω l k+wF (ω (k:Int)) (rl l (k:Int))
def wL (ω:Int→Flit→Nat) (l:List (List Flit)):Nat:=wTo ω l l.length
theorem wTo_one (ω:Int→Flit→Nat) {l l':List (List Flit)} {b:Int} (b0:0≤b) (ho:∀ j:Int,0≤j→j≠b→rl l' j=rl l j):∀ k:Nat,if b<(k:Int) then wTo ω l' k+wF (ω b) (rl l b)=wTo ω l k+wF (ω b) (rl l' b) else wTo ω l' k=wTo ω l k:=by
  intro k
  induction k with
  | zero=>rw[if_neg (by omega)];rfl
  | succ k ih=>
    rw[wTo,wTo]
    by_cases h1:b<(k:Int)
    · rw[if_pos h1] at ih
      rw[if_pos (by omega),ho k (by omega) (by omega)]
      omega
    · rw[if_neg h1] at ih
      by_cases h2:b=(k:Int)
      · rw[if_pos (by omega),ih,h2]
        omega
      · rw[if_neg (by omega),ih,ho k (by omega) (by omega)]
theorem wL_one (ω:Int→Flit→Nat) {l l':List (List Flit)} {b:Int} (b0:0≤b) (b1:b<(l.length:Int)) (hl:l'.length=l.length) (ho:∀ j:Int,0≤j→j≠b→rl l' j=rl l j):wL ω l'+wF (ω b) (rl l b)=wL ω l+wF (ω b) (rl l' b):=by
  have:=wTo_one ω b0 ho l.length
  rw[if_pos b1] at this
  unfold wL
  rw[hl]
  exact this
theorem wL_set (ω:Int→Flit→Nat) {l:List (List Flit)} {b:Int} {v:List Flit} (b0:0≤b) (b1:b<(l.length:Int)):wL ω (l.set b.toNat v)+wF (ω b) (rl l b)=wL ω l+wF (ω b) v:=by
  have:=wL_one ω (l:=l) (l':=l.set b.toNat v) b0 b1 (List.length_set ..) (fun j j0 hj=>by rw[rl_setI b0 b1 j j0,if_neg hj])
  rw[rl_setI b0 b1 b b0,if_pos rfl] at this
  exact this
def sumG (δ:Grant→Nat) (gs:List Grant):Nat:=(gs.map δ).sum
def sumE (ε:Int→Nat) (ks:List Int):Nat:=(ks.map ε).sum
theorem sumG_snoc (δ:Grant→Nat) (gs:List Grant) (g:Grant):sumG δ (gs++[g])=sumG δ gs+δ g:=by simp[sumG]
theorem sumE_snoc (ε:Int→Nat) (ks:List Int) (a:Int):sumE ε (ks++[a])=sumE ε ks+ε a:=by simp[sumE]
def outW (n:Net) (ω:Int→Flit→Nat) (g:Grant):Nat:=ω (gIdx g) (mvF n g)
def inW (n:Net) (ω:Int→Flit→Nat) (g:Grant):Nat:=if g.port=4 then 0 else ω (gTo n g) (mvF n g)
theorem specG_w {n x:Net} {g:Grant} {rest:List Flit} (M:Mv n x g rest) (ω:Int→Flit→Nat):wL ω (specG n x g).bufs+outW n ω g=wL ω x.bufs+inW n ω g:=by
  obtain⟨b0,b1,_⟩:=M.idx
  have h1:=wL_set ω (l:=x.bufs) (b:=gIdx g) (v:=rest) b0 (by rw[M.lb];exact b1)
  rw[M.hf,wF_cons] at h1
  have e0:x.bufs.set (gIdx g).toNat rest=popB x.bufs g:=by unfold popB;rw[M.hf];rfl
  rw[e0] at h1
  unfold outW inW specG
  rw[pushG_bufs]
  by_cases h4:g.port=4
  · rw[if_pos h4,if_pos h4]
    have e3:(popN x g).bufs=popB x.bufs g:=rfl
    rw[e3]
    omega
  · rw[if_neg h4,if_neg h4]
    obtain⟨t0,t1⟩:=M.to h4
    have h2:=wL_set ω (l:=popB x.bufs g) (b:=gTo n g) (v:=rl (popB x.bufs g) (gTo n g)++[mvF n g]) t0 (by rw[popB_len,M.lb];exact t1)
    rw[wF_app,wF_one] at h2
    have e3:addB (popN x g).bufs (gTo n g) (mvF n g)=(popB x.bufs g).set (gTo n g).toNat (rl (popB x.bufs g) (gTo n g)++[mvF n g]):=rfl
    rw[e3]
    omega
theorem enterB_w {n x:Net} {a:Int} {rest:List Flit} (E:En n x a rest) (ω σ:Int→Flit→Nat):wL ω (enterB n x a).bufs+wL σ (enterB n x a).srcs+σ a (rf (rl n.srcs a) 0)=wL ω x.bufs+wL σ x.srcs+ω (eTo n a) (rf (rl n.srcs a) 0):=by
  have t0:0≤eTo n a:=by have:=E.a0;have:=E.c0;unfold eTo;omega
  have h1:=wL_set ω (l:=x.bufs) (b:=eTo n a) (v:=rl x.bufs (eTo n a)++[rf (rl n.srcs a) 0]) t0 (by rw[E.lb];exact E.t1)
  have h2:=wL_set σ (l:=x.srcs) (b:=a) (v:=(rl x.srcs a).drop 1) E.a0 (by rw[E.ls];exact E.a1)
  rw[wF_app,wF_one] at h1
  have e:wF (σ a) (rl x.srcs a)=σ a (rf (rl n.srcs a) 0)+wF (σ a) ((rl x.srcs a).drop 1):=by rw[E.hf,wF_cons];rfl
  have e3:(enterB n x a).bufs=x.bufs.set (eTo n a).toNat (rl x.bufs (eTo n a)++[rf (rl n.srcs a) 0]):=rfl
  have e4:(enterB n x a).srcs=x.srcs.set a.toNat ((rl x.srcs a).drop 1):=rfl
  rw[e3,e4]
  omega
theorem step_w {n:Net} (ok:netOk n=true) (ω σ:Int→Flit→Nat) :
    wL ω (stepN n).bufs+wL σ (stepN n).srcs+sumG (outW n ω) (allGrants n)+sumE (fun a=>σ a (rf (rl n.srcs a) 0)) (enteringN n)=wL ω n.bufs+wL σ n.srcs+sumG (inW n ω) (allGrants n)+sumE (fun a=>ω (eTo n a) (rf (rl n.srcs a) 0)) (enteringN n):=by
  have h1:=grants_ind ok (fun gs x=>x.srcs=n.srcs∧wL ω x.bufs+sumG (outW n ω) gs=wL ω n.bufs+sumG (inW n ω) gs) ⟨rfl,rfl⟩ (fun gs g x rest _ M h=>by
    have:=specG_w M ω
    refine⟨((specG_rest n x g).2.2.2.1).trans h.1,?_⟩
    rw[sumG_snoc,sumG_snoc]
    have:=h.2
    omega)
  have h2:=enters_ind ok (fun ks x=>wL ω x.bufs+wL σ x.srcs+sumG (outW n ω) (allGrants n)+sumE (fun a=>σ a (rf (rl n.srcs a) 0)) ks=wL ω n.bufs+wL σ n.srcs+sumG (inW n ω) (allGrants n)+sumE (fun a=>ω (eTo n a) (rf (rl n.srcs a) 0)) ks) (by
    have e:wL σ (afterPush n).srcs=wL σ n.srcs:=by rw[h1.1]
    rw[e]
    have:=h1.2
    show _+_+_+0=_+_+_+0
    omega) (fun ks a x rest _ E h=>by
    have:=enterB_w E ω σ
    rw[sumE_snoc,sumE_snoc]
    omega)
  exact h2
theorem sum_le {α:Type} {f g:α→Nat}:∀ {l:List α},(∀ x∈l,f x=g x)→(l.map f).sum=(l.map g).sum:=by
  intro l h
  rw[List.map_congr_left h]
theorem sumG_add (f g:Grant→Nat) (l:List Grant):sumG (fun x=>f x+g x) l=sumG f l+sumG g l:=by
  induction l with
  | nil=>rfl
  | cons x l ih=>
    unfold sumG at *
    simp only[List.map_cons,List.sum_cons] at *
    omega
theorem sumE_add (f g:Int→Nat) (l:List Int):sumE (fun x=>f x+g x) l=sumE f l+sumE g l:=by
  induction l with
  | nil=>rfl
  | cons x l ih=>
    unfold sumE at *
    simp only[List.map_cons,List.sum_cons] at *
    omega
theorem step_down {n:Net} (ok:netOk n=true) (ω σ:Int→Flit→Nat) (δ:Grant→Nat) (ε:Int→Nat) (hg:∀ g∈allGrants n,outW n ω g=inW n ω g+δ g) (he:∀ a∈enteringN n,σ a (rf (rl n.srcs a) 0)=ω (eTo n a) (rf (rl n.srcs a) 0)+ε a) :
    wL ω (stepN n).bufs+wL σ (stepN n).srcs+sumG δ (allGrants n)+sumE ε (enteringN n)=wL ω n.bufs+wL σ n.srcs:=by
  have h:=step_w ok ω σ
  have e1:sumG (outW n ω) (allGrants n)=sumG (inW n ω) (allGrants n)+sumG δ (allGrants n):=by rw[←sumG_add];exact sum_le hg
  have e2:sumE (fun a=>σ a (rf (rl n.srcs a) 0)) (enteringN n)=sumE (fun a=>ω (eTo n a) (rf (rl n.srcs a) 0)) (enteringN n)+sumE ε (enteringN n):=by rw[←sumE_add];exact sum_le he
  omega
def gotG (n:Net) (gs:List Grant) (b:Int):List Flit:=(gs.filter (goesTo n b)).map (mvF n)
def gotE (n:Net) (ks:List Int) (b:Int):List Flit:=(ks.filter (fun a=>eTo n a == b)).map (fun a=>rf (rl n.srcs a) 0)
def gotA (n:Net) (gs:List Grant) (a:Int):List Flit:=(gs.filter (fun g=>g.port == 4 && g.node == a)).map (mvF n)
theorem row_pop {b:Int} (hb:0≤b):∀ (gs:List Grant) (bs:List (List Flit)),(gs.map gIdx).Nodup→(∀ g∈gs,0≤gIdx g∧gIdx g<(bs.length:Int))→rl (popL bs gs) b=if b∈gs.map gIdx then (rl bs b).drop 1 else rl bs b:=by
  intro gs
  induction gs with
  | nil=>intro bs _ _;rfl
  | cons g gs ih=>
    intro bs hn hr
    simp only[List.map_cons,List.nodup_cons] at hn
    obtain⟨g0,g1⟩:=hr g (by simp)
    show rl (popL (popB bs g) gs) b=_
    rw[ih (popB bs g) hn.2 (fun y hy=>by rw[popB_len];exact hr y (by simp[hy]))]
    have e:rl (popB bs g) b=if b=gIdx g then (rl bs b).drop 1 else rl bs b:=by
      unfold popB
      rw[rl_setI g0 g1 b hb]
      by_cases h:b=gIdx g
      · rw[if_pos h,if_pos h,h]
      · rw[if_neg h,if_neg h]
    rw[e]
    by_cases h:b=gIdx g
    · rw[if_neg (by rw[h];exact hn.1),if_pos h,if_pos (by simp[h])]
    · rw[if_neg h]
      by_cases h2:b∈gs.map gIdx
      · rw[if_pos h2,if_pos (by simp only[List.map_cons,List.mem_cons];exact .inr h2)]
      · rw[if_neg h2,if_neg (by simp only[List.map_cons,List.mem_cons];rintro (h3|h3);exact h h3;exact h2 h3)]
theorem row_push (n:Net) {b:Int} (hb:0≤b):∀ (gs:List Grant) (x:Net),(∀ g∈gs,¬ g.port=4→0≤gTo n g∧gTo n g<(x.bufs.length:Int))→rl (pushL n x gs).bufs b=rl x.bufs b++gotG n gs b:=by
  intro gs
  induction gs with
  | nil=>intro x _;simp[gotG,pushL]
  | cons g gs ih=>
    intro x hr
    show rl (pushL n (pushG n x g) gs).bufs b=_
    rw[ih (pushG n x g) (fun y hy h4=>by rw[pushG_len];exact hr y (by simp[hy]) h4),pushG_bufs]
    unfold gotG
    by_cases h4:g.port=4
    · rw[if_pos h4,List.filter_cons,if_neg (by simp[goesTo,h4])]
    · rw[if_neg h4]
      obtain⟨t0,t1⟩:=hr g (by simp) h4
      unfold addB
      rw[rl_setI t0 t1 b hb]
      by_cases h:b=gTo n g
      · rw[if_pos h,List.filter_cons,if_pos (by simp[goesTo,h4,h]),←h]
        simp
      · rw[if_neg h,List.filter_cons,if_neg (by simp[goesTo,h4,Ne.symm h])]
theorem row_arrs (n:Net) {a:Int} (ha:0≤a):∀ (gs:List Grant) (x:Net),(∀ g∈gs,0≤g.node∧g.node<(x.arrs.length:Int))→rl (pushL n x gs).arrs a=rl x.arrs a++gotA n gs a:=by
  intro gs
  induction gs with
  | nil=>intro x _;simp[gotA,pushL]
  | cons g gs ih=>
    intro x hr
    show rl (pushL n (pushG n x g) gs).arrs a=_
    rw[ih (pushG n x g) (fun y hy=>by
      have h1:=hr y (by simp[hy])
      rw[pushG_arrs];split
      · rw[List.length_set];exact h1
      · exact h1),pushG_arrs]
    obtain⟨t0,t1⟩:=hr g (by simp)
    unfold gotA
    by_cases h4:g.port=4
    · rw[if_pos h4,rl_setI t0 t1 a ha]
      by_cases h:a=g.node
      · rw[if_pos h,List.filter_cons,if_pos (by simp[h4,h]),←h]
        simp
      · rw[if_neg h,List.filter_cons,if_neg (by simp[h4,Ne.symm h])]
    · rw[if_neg h4,List.filter_cons,if_neg (by simp[h4])]
theorem row_enter (n:Net) {b:Int} (hb:0≤b):∀ (ks:List Int) (x:Net),(∀ a∈ks,0≤eTo n a∧eTo n a<(x.bufs.length:Int))→rl (enterL n x ks).bufs b=rl x.bufs b++gotE n ks b:=by
  intro ks
  induction ks with
  | nil=>intro x _;simp[gotE,enterL]
  | cons a ks ih=>
    intro x hr
    obtain⟨t0,t1⟩:=hr a (by simp)
    show rl (enterL n (enterB n x a) ks).bufs b=_
    rw[ih (enterB n x a) (fun y hy=>by show _∧_<((x.bufs.set _ _).length:Int);rw[List.length_set];exact hr y (by simp[hy]))]
    unfold gotE
    show rl (x.bufs.set _ _) b++_=_
    rw[rl_setI t0 t1 b hb]
    by_cases h:b=eTo n a
    · rw[if_pos h,List.filter_cons,if_pos (by simp[h]),←h]
      simp
    · rw[if_neg h,List.filter_cons,if_neg (by simp[Ne.symm h])]
theorem row_srcs (n:Net) {b:Int} (hb:0≤b):∀ (ks:List Int) (x:Net),ks.Pairwise (·<·)→(∀ a∈ks,0≤a∧a<(x.srcs.length:Int))→rl (enterL n x ks).srcs b=if b∈ks then (rl x.srcs b).drop 1 else rl x.srcs b:=by
  intro ks
  induction ks with
  | nil=>intro x _ _;rfl
  | cons a ks ih=>
    intro x hp hr
    obtain⟨t0,t1⟩:=hr a (by simp)
    rw[List.pairwise_cons] at hp
    show rl (enterL n (enterB n x a) ks).srcs b=_
    rw[ih (enterB n x a) hp.2 (fun y hy=>by show _∧_<((x.srcs.set _ _).length:Int);rw[List.length_set];exact hr y (by simp[hy]))]
    have e:rl (enterB n x a).srcs b=if b=a then (rl x.srcs b).drop 1 else rl x.srcs b:=by
      show rl (x.srcs.set _ _) b=_
      rw[rl_setI t0 t1 b hb]
      by_cases h:b=a
      · rw[if_pos h,if_pos h,h]
      · rw[if_neg h,if_neg h]
    rw[e]
    by_cases h:b=a
    · have hnot:¬ b∈ks:=fun hm=>by have:=hp.1 b hm;omega
      rw[if_neg hnot,if_pos h,if_pos (by simp[h])]
    · rw[if_neg h]
      by_cases h2:b∈ks
      · rw[if_pos h2,if_pos (List.mem_cons_of_mem _ h2)]
      · rw[if_neg h2,if_neg (by rw[List.mem_cons];rintro (h3|h3);exact h h3;exact h2 h3)]
theorem step_row {n:Net} (ok:netOk n=true) {b:Int} (hb:0≤b):rl (stepN n).bufs b=(if b∈(allGrants n).map gIdx then (rl n.bufs b).drop 1 else rl n.bufs b)++gotG n (allGrants n) b++gotE n (enteringN n) b:=by
  have hok:=grants_GsOk ok
  have hgt:=grants_GtOk ok
  show rl (enterL n (afterPush n) (enteringN n)).bufs b=_
  rw[row_enter n hb (enteringN n) (afterPush n) (fun a ha=>by
    obtain⟨i,rfl,hi,hl,e1,e2,e3⟩:=enter_in ok a ha
    rw[afterPush_len]
    exact⟨by omega,e3⟩)]
  unfold afterPush
  rw[row_push n hb (allGrants n) (afterPop n) (fun g hg h4=>by rw[afterPop_len];exact hgt g hg h4)]
  unfold afterPop
  rw[row_pop hb (allGrants n) n.bufs hok.nodup hok.range]
theorem step_src {n:Net} (ok:netOk n=true) {a:Int} (ha:0≤a):rl (stepN n).srcs a=if a∈enteringN n then (rl n.srcs a).drop 1 else rl n.srcs a:=by
  have hs:(afterPush n).srcs=n.srcs:=pushL_srcs (allGrants n) (afterPop n)
  show rl (enterL n (afterPush n) (enteringN n)).srcs a=_
  rw[row_srcs n ha (enteringN n) (afterPush n) (enterTo_spec n n.srcs.length).2 (fun y hy=>by
    obtain⟨i,rfl,hi,_⟩:=enter_in ok y hy
    rw[hs]
    exact⟨by omega,by omega⟩),hs]
theorem step_arr {n:Net} (ok:netOk n=true) {a:Int} (ha:0≤a):rl (stepN n).arrs a=rl n.arrs a++gotA n (allGrants n) a:=by
  rw[(step_parts n).2.2.2.2.2]
  unfold afterPush
  rw[row_arrs n ha (allGrants n) (afterPop n) (fun g hg=>by
    have:=(((grants_one hg).at ok).idx)
    have h2:(afterPop n).arrs=n.arrs:=rfl
    rw[h2]
    exact⟨this.1,this.2.2.2.2.2.2.2⟩)]
  rfl
theorem mem_gotG {n:Net} {gs:List Grant} {b:Int} {f:Flit}:f∈gotG n gs b↔∃ g∈gs,g.port≠4∧gTo n g=b∧mvF n g=f:=by
  unfold gotG
  simp only[List.mem_map,List.mem_filter]
  constructor
  · rintro ⟨g,⟨h1,h2⟩,h3⟩
    simp only[goesTo,Bool.and_eq_true,Bool.not_eq_true',beq_eq_false_iff_ne,beq_iff_eq] at h2
    exact⟨g,h1,h2.1,h2.2,h3⟩
  · rintro ⟨g,h1,h2,h3,h4⟩
    exact⟨g,⟨h1,by simp[goesTo,h2,h3]⟩,h4⟩
theorem mem_gotE {n:Net} {ks:List Int} {b:Int} {f:Flit}:f∈gotE n ks b↔∃ a∈ks,eTo n a=b∧rf (rl n.srcs a) 0=f:=by
  unfold gotE
  simp only[List.mem_map,List.mem_filter,beq_iff_eq]
  constructor
  · rintro ⟨a,⟨h1,h2⟩,h3⟩;exact⟨a,h1,h2,h3⟩
  · rintro ⟨a,h1,h2,h3⟩;exact⟨a,⟨h1,h2⟩,h3⟩
theorem mem_gotA {n:Net} {gs:List Grant} {a:Int} {f:Flit}:f∈gotA n gs a↔∃ g∈gs,g.port=4∧g.node=a∧mvF n g=f:=by
  unfold gotA
  simp only[List.mem_map,List.mem_filter,Bool.and_eq_true,beq_iff_eq]
  constructor
  · rintro ⟨g,⟨h1,h2⟩,h3⟩;exact⟨g,h1,h2.1,h2.2,h3⟩
  · rintro ⟨g,h1,h2,h3,h4⟩;exact⟨g,⟨h1,h2,h3⟩,h4⟩
end NoC
namespace Go.Proofs.YtodbglncccgdbaaGreat
open NoC
def hp (n:Net) (a:Int) (f:Flit):Nat:=(walk n.mesh (tabOf n.pa n.pb f.cls) a f.dst).length
def wB (n:Net) (b:Int) (f:Flit):Nat:=hp n (b / 10) f+1
def wS (n:Net) (a:Int) (f:Flit):Nat:=hp n a f+2
def left (n:Net):Nat:=wL (wB n) n.bufs+wL (wS n) n.srcs
structure Gw (n:Net) (g:Grant) (f:Flit):Prop where
  one:GOne n g
  cls:f.cls=g.input % 2
  dst:isNode n.mesh.g f.dst=true
  ent:entry n.mesh (tabOf n.pa n.pb f.cls) g.node f.dst=g.port
theorem grant_gw {n:Net} (ok:netOk n=true) (hE:WE n) {g:Grant} (hg:g∈allGrants n):Gw n g (mvF n g):=by
  have one:=grants_one hg
  obtain⟨h1,h2⟩:=flit_of ok one
  unfold flitOk at h2
  rw[Bool.and_eq_true] at h2
  refine⟨one,h1,h2.1,?_⟩
  rw[h1]
  exact grant_entry ok hE hg
theorem Gw.here {n:Net} {g:Grant} {f:Flit} (ok:netOk n=true) (h:Gw n g f) (h4:g.port=4):g.node=f.dst:=(hop_four (ok_tab ok f.cls) h.one.nd h.dst).1 (by rw[h.ent];exact h4)
theorem Gw.hop {n:Net} {g:Grant} {f:Flit} (ok:netOk n=true) (h:Gw n g f) (h4:¬ g.port=4):walk n.mesh (tabOf n.pa n.pb f.cls) g.node f.dst=(4*g.node+g.port)::walk n.mesh (tabOf n.pa n.pb f.cls) (nextNode n.mesh.g g.node g.port) f.dst:=by
  have hne:g.node≠f.dst:=fun e=>h4 (by rw[←h.ent];exact(hop_four (ok_tab ok f.cls) h.one.nd h.dst).2 e)
  have:=(NoC.hop (ok_tab ok f.cls) h.one.nd h.dst hne).wk
  rw[h.ent] at this
  exact this
theorem Gw.hp {n:Net} {g:Grant} {f:Flit} (ok:netOk n=true) (h:Gw n g f):if g.port=4 then hp n g.node f=0 else hp n g.node f=hp n (gTo n g / 10) f+1:=by
  unfold Go.Proofs.YtodbglncccgdbaaGreat.hp
  by_cases h4:g.port=4
  · rw[if_pos h4,←h.here ok h4,(hop_end (ok_tab ok f.cls) h.one.nd).2]
    rfl
  · rw[if_neg h4]
    obtain⟨_,_,_,t3,t4,t5,t6⟩:=h.one.to ok h4
    have i0:=h.one.i0
    rw[show gTo n g / 10=nextNode n.mesh.g g.node g.port by omega,h.hop ok h4]
    rfl
theorem gIdx_div {n:Net} {g:Grant} (h:GOne n g):gIdx g / 10=g.node:=by
  have:=h.i0;have:=h.i9
  unfold gIdx;omega
theorem eTo_div {n:Net} (ok:netOk n=true) {a:Int} (ha:a∈enteringN n):eTo n a / 10=a∧0≤a∧a<(n.srcs.length:Int)∧0<(rl n.srcs a).length∧eTo n a=10*a+8+(rf (rl n.srcs a) 0).cls∧0≤eTo n a:=by
  obtain⟨i,rfl,hi,hl,e1,e2,e3⟩:=enter_in ok a ha
  exact⟨by omega,by omega,by omega,hl,rfl,by omega⟩
theorem sumG_one (gs:List Grant):sumG (fun _=>1) gs=gs.length:=by
  induction gs with
  | nil=>rfl
  | cons g gs ih=>unfold sumG at *;simp only[List.map_cons,List.sum_cons,List.length_cons] at *;omega
theorem sumE_one (ks:List Int):sumE (fun _=>1) ks=ks.length:=by
  induction ks with
  | nil=>rfl
  | cons g gs ih=>unfold sumE at *;simp only[List.map_cons,List.sum_cons,List.length_cons] at *;omega
theorem hp_step (n:Net) (a:Int) (f:Flit):hp (stepN n) a f=hp n a f:=by
  obtain⟨e1,e2,e3,_⟩:=step_parts n
  unfold hp
  rw[e1,e2,e3]
theorem wB_step (n:Net):wB (stepN n)=wB n:=by funext b f;unfold wB;rw[hp_step]
theorem wS_step (n:Net):wS (stepN n)=wS n:=by funext b f;unfold wS;rw[hp_step]
theorem left_step {n:Net} (ok:netOk n=true) (hE:WE n):left (stepN n)+(allGrants n).length+(enteringN n).length=left n:=by
  have h:=step_down ok (wB n) (wS n) (fun _=>1) (fun _=>1) (fun g hg=>by
    have hw:=grant_gw ok hE hg
    have h1:=hw.hp ok
    unfold outW inW wB
    rw[gIdx_div hw.one]
    by_cases h4:g.port=4
    · rw[if_pos h4] at h1 ⊢;omega
    · rw[if_neg h4] at h1 ⊢;omega) (fun a ha=>by
    have:=(eTo_div ok ha).1
    unfold wS wB
    rw[this])
  rw[sumG_one,sumE_one] at h
  unfold left
  rw[wB_step,wS_step]
  exact h
theorem wTo_zero {ω:Int→Flit→Nat} (hω:∀ b f,0<ω b f) {l:List (List Flit)}:∀ k,wTo ω l k=0→totTo l k=0:=by
  intro k
  induction k with
  | zero=>intro _;rfl
  | succ k ih=>
    intro h
    rw[wTo] at h
    rw[totTo,ih (by omega)]
    have h2:wF (ω (k:Int)) (rl l (k:Int))=0:=by omega
    cases e:rl l (k:Int) with
    | nil=>rfl
    | cons f r=>
      rw[e,wF_cons] at h2
      have:=hω k f
      omega
theorem left_zero {n:Net} (h:left n=0):idleN n=true:=by
  unfold left at h
  have h1:=wTo_zero (ω:=wB n) (fun b f=>by unfold wB;omega) (l:=n.bufs) n.bufs.length (by unfold wL at h;omega)
  have h2:=wTo_zero (ω:=wS n) (fun b f=>by unfold wS;omega) (l:=n.srcs) n.srcs.length (by unfold wL at h;omega)
  unfold idleN
  rw[decide_eq_true h1,decide_eq_true h2]
  rfl
structure Safe (n:Net):Prop where
  ok:netOk n=true
  we:WE n
  lc:LC n
  rk:∃ ρ R,Ranks n.mesh n.pa n.pb ρ R
theorem Safe.step {n:Net} (h:Safe n) (ht:n.time<1000000):Safe (stepN n):=by
  obtain⟨e1,e2,e3,_⟩:=step_parts n
  refine⟨step_ok h.ok ht,WE_step h.ok h.we,LC_step h.ok h.we h.lc,?_⟩
  rw[e1,e2,e3]
  exact h.rk
theorem Safe.moves {n:Net} (h:Safe n) (hi:idleN n=false):0<movesV n:=by
  obtain⟨ρ,R,hR⟩:=h.rk
  have h0:0≤movesV n:=by unfold movesV;omega
  rcases Int.lt_or_eq_of_le h0 with h1|h1
  · exact h1
  · rw[moves_some h.ok h.we h.lc hR h1.symm] at hi;cases hi
theorem Safe.idle:∀ (k:Nat) {n:Net},Safe n→left n≤k→n.time+k≤1000000→∃ j,j≤k∧idleN (runN n j)=true:=by
  intro k
  induction k with
  | zero=>intro n h hl ht;exact⟨0,Nat.le_refl _,left_zero (n:=n) (by omega)⟩
  | succ k ih=>
    intro n h hl ht
    cases hi:idleN n
    · have hm:=h.moves hi
      have hs:=left_step h.ok h.we
      unfold movesV at hm
      have e:(stepN n).time=n.time+1:=rfl
      obtain⟨j,hj,h2⟩:=ih (h.step (by omega)) (by omega) (by rw[e];push_cast at ht;omega)
      exact⟨j+1,by omega,by rw[runN_head];exact h2⟩
    · exact⟨0,by omega,hi⟩
def late (n:Net) (T:Nat):Prop:=(∃ (b:Int) (f:Flit),0≤b∧b<(n.bufs.length:Int)∧f∈rl n.bufs b∧T≤hp n (b / 10) f+1)∨(∃ (a:Int) (j:Nat),0≤a∧a<(n.srcs.length:Int)∧j<(rl n.srcs a).length∧T≤hp n a (rf (rl n.srcs a) j)+2+j)
theorem rl_len0 {l:List (List Flit)} (h:totTo l l.length=0) {b:Int} (b0:0≤b) (b1:b<(l.length:Int)):(rl l b).length=0:=by
  have:=tot_zero _ h b.toNat (by omega)
  rwa [Int.toNat_of_nonneg b0] at this
theorem late_busy {n:Net} {T:Nat} (h:late n (T+1)):idleN n=false:=by
  cases hi:idleN n
  · rfl
  · exfalso
    simp only[idleN,Bool.and_eq_true,decide_eq_true_eq] at hi
    rcases h with ⟨b,f,b0,b1,hf,_⟩|⟨a,j,a0,a1,hj,_⟩
    · have:=rl_len0 hi.1 b0 b1
      have:=List.length_pos_of_mem hf
      omega
    · have:=rl_len0 hi.2 a0 a1
      omega
theorem mem_row {n:Net} (ok:netOk n=true) {b:Int} (hb:0≤b) {f:Flit} (hf:f∈rl n.bufs b):f∈rl (stepN n).bufs b∨∃ g∈allGrants n,gIdx g=b∧mvF n g=f:=by
  rw[step_row ok hb]
  by_cases h:b∈(allGrants n).map gIdx
  · obtain⟨g,hg,e⟩:=List.mem_map.1 h
    rw[if_pos h]
    cases el:rl n.bufs b with
    | nil=>rw[el] at hf;cases hf
    | cons x r=>
      rw[el] at hf
      rcases List.mem_cons.1 hf with h1|h1
      · right
        refine⟨g,hg,e,?_⟩
        unfold mvF
        rw[e,el,h1]
        rfl
      · left
        simp only[List.append_assoc,List.mem_append]
        exact .inl h1
  · left
    rw[if_neg h]
    simp only[List.append_assoc,List.mem_append]
    exact .inl hf
theorem late_step {n:Net} (ok:netOk n=true) (hE:WE n) {T:Nat} (h:late n (T+2)):late (stepN n) (T+1):=by
  obtain⟨c1,s1,s2,s3,s4,s5,_⟩:=netOk_parts ok
  have L:=step_lens n
  rcases h with ⟨b,f,b0,b1,hf,hT⟩|⟨a,j,a0,a1,hj,hT⟩
  · left
    rcases mem_row ok b0 hf with h1|⟨g,hg,e1,e2⟩
    · exact⟨b,f,b0,by rw[L.b];exact b1,h1,by rw[hp_step];omega⟩
    · have hw:=grant_gw ok hE hg
      rw[e2] at hw
      have h2:=hw.hp ok
      rw[←e1,gIdx_div hw.one] at hT
      by_cases h4:g.port=4
      · rw[if_pos h4] at h2;omega
      · rw[if_neg h4] at h2
        obtain⟨t0,t1,_⟩:=hw.one.to ok h4
        refine⟨gTo n g,f,t0,by rw[L.b];exact t1,?_,by rw[hp_step];omega⟩
        rw[step_row ok t0]
        simp only[List.append_assoc,List.mem_append]
        exact .inr (.inl (mem_gotG.2 ⟨g,hg,h4,rfl,e2⟩))
  · have hs:=step_src ok a0
    by_cases h:a∈enteringN n
    · rw[if_pos h] at hs
      rcases Nat.eq_zero_or_pos j with e|e
      · left
        subst e
        obtain⟨d1,d2,d3,d4,d5,d6⟩:=eTo_div ok h
        obtain⟨i,_,hi,hl,e1,e2,e3⟩:=enter_in ok a h
        refine⟨eTo n a,rf (rl n.srcs a) 0,d6,by rw[L.b];exact e3,?_,by rw[hp_step,d1];simp only[Int.natCast_zero] at hT;omega⟩
        rw[step_row ok d6]
        simp only[List.append_assoc,List.mem_append]
        exact .inr (.inr (mem_gotE.2 ⟨a,h,rfl,rfl⟩))
      · right
        obtain⟨i,rfl⟩:∃ i,j=i+1:=⟨j - 1,by omega⟩
        refine⟨a,i,a0,by rw[L.s];exact a1,by rw[hs,List.length_drop];omega,?_⟩
        have e2:rf (rl (stepN n).srcs a) (i:Int)=rf (rl n.srcs a) ((i+1:Nat):Int):=by
          rw[hs]
          unfold rf
          simp only[Int.toNat_natCast,List.getD_eq_getElem?_getD,List.getElem?_drop]
          rw[Nat.add_comm 1 i]
        rw[hp_step,e2]
        omega
    · right
      rw[if_neg h] at hs
      exact⟨a,j,a0,by rw[L.s];exact a1,by rw[hs];exact hj,by rw[hp_step,hs];omega⟩
theorem late_run:∀ (T:Nat) {n:Net},netOk n=true→WE n→late n (T+1)→∀ k:Nat,k≤T→n.time+k≤1000000→idleN (runN n k)=false:=by
  intro T
  induction T with
  | zero=>intro n ok hE h k hk ht;obtain rfl:k=0:=(by omega);exact late_busy h
  | succ T ih=>
    intro n ok hE h k hk ht
    cases k with
    | zero=>exact late_busy h
    | succ k=>
      rw[runN_head]
      have e:(stepN n).time=n.time+1:=rfl
      exact ih (step_ok ok (by push_cast at ht;omega)) (WE_step ok hE) (late_step ok hE h) k (by omega) (by rw[e];push_cast at ht;omega)
theorem makeT_at {g:Grid} {r a b:Int} (ha:isNode g a=true) (hb:isNode g b=true):entry ⟨g,[]⟩ (makeT g r) a b=stdPort g r a b:=by
  have h1:=isNode_iff.1 ha
  have h2:=isNode_iff.1 hb
  obtain⟨N,hN⟩:∃ N:Nat,nodeCount g=N:=⟨(nodeCount g).toNat,by omega⟩
  obtain⟨i,rfl⟩:∃ i:Nat,a=i:=⟨a.toNat,by omega⟩
  obtain⟨j,rfl⟩:∃ j:Nat,b=j:=⟨b.toNat,by omega⟩
  have hi:i<N:=by omega
  have hj:j<N:=by omega
  have hlt:i*N+j<N*N:=by
    have:(i+1)*N≤N*N:=Nat.mul_le_mul_right N hi
    rw[Nat.add_mul,Nat.one_mul] at this
    omega
  unfold entry makeT makeTo
  show ri _ ((i:Int)*nodeCount g+j)=_
  rw[hN]
  have e:(i:Int)*(N:Int)+(j:Int)=((i*N+j:Nat):Int):=by push_cast;rfl
  rw[e]
  unfold ri
  simp only[Int.toNat_natCast,List.getD_eq_getElem?_getD,List.getElem?_map,List.getElem?_range hlt,Option.map_some,Option.getD_some]
  rw[show (i*N+j) / N=i by rw[Nat.mul_comm,Nat.mul_add_div (by omega),Nat.div_eq_of_lt hj,Nat.add_zero],show (i*N+j) % N=j by rw[Nat.mul_comm,Nat.mul_add_mod,Nat.mod_eq_of_lt hj]]
def rkPort (g:Grid) (r a p:Int):Nat:=
  min 50 (if r=1 then (if p=1 then a % g.w else if p=3 then g.w - 1 - a % g.w else if p=2 then 10+a / g.w else 20 - a / g.w)
  else if r=2 then (if p=2 then a / g.w else if p=0 then g.h - 1 - a / g.w else if p=1 then 10+a % g.w else 20 - a % g.w)
  else (if p=3 then g.w - 1 - a % g.w else if p=2 then 10+a / g.w else if p=0 then 20 - a / g.w else 30+a % g.w)).toNat
def rkB (g:Grid) (r u d:Int):Bool:=
  !(isNode g u && isNode g d && !(stdPort g r u d == 4) && !(stdPort g r (nextNode g u (stdPort g r u d)) d == 4)) ||
  (isNode g (nextNode g u (stdPort g r u d)) && Nat.blt (rkPort g r u (stdPort g r u d)) (rkPort g r (nextNode g u (stdPort g r u d)) (stdPort g r (nextNode g u (stdPort g r u d)) d)))
def rkAll:Bool:=allI 4 fun w=>allI 4 fun h=>allI 3 fun r=>allI 16 fun u=>allI 16 fun d=>rkB ⟨(w:Int)+1,(h:Int)+1⟩ ((r:Int)+1) (u:Int) (d:Int)
set_option maxRecDepth 100000 in
theorem rk_all:rkAll=true:=by decide +kernel
theorem rk_up {g:Grid} {r u d:Int} (r1:1≤r) (r3:r≤3) (hu:isNode g u=true) (hd:isNode g d=true) (h1:stdPort g r u d≠4) (h2:stdPort g r (nextNode g u (stdPort g r u d)) d≠4) :
    rkPort g r u (stdPort g r u d)<rkPort g r (nextNode g u (stdPort g r u d)) (stdPort g r (nextNode g u (stdPort g r u d)) d):=by
  obtain⟨hg,u0,u1⟩:=isNode_ok hu
  obtain⟨_,d0,d1⟩:=isNode_ok hd
  obtain⟨w,h,hw,hh,rfl⟩:=grid_cases hg
  have h0:=rk_all
  unfold rkAll at h0
  have:=allI_iff.1 (allI_iff.1 (allI_iff.1 (allI_iff.1 (allI_iff.1 h0 w hw) h hh) (r - 1).toNat (by omega)) u.toNat (by omega)) d.toNat (by omega)
  rw[Int.toNat_of_nonneg u0,Int.toNat_of_nonneg d0,Int.toNat_of_nonneg (by omega),show r - 1+1=r by omega] at this
  unfold rkB at this
  rw[hu,hd,beq_eq_false_iff_ne.2 h1,beq_eq_false_iff_ne.2 h2] at this
  simp only[Bool.not_false,Bool.and_true,Bool.not_true,Bool.false_or,Bool.and_eq_true] at this
  exact Nat.blt_eq.mp this.2
theorem std_next {g:Grid} {r u d:Int} (hg:1≤g.w∧g.w≤4∧1≤g.h∧g.h≤4) (r1:1≤r) (r4:r≤4) (hu:isNode g u=true) (hd:isNode g d=true) (h1:stdPort g r u d≠4):isNode g (nextNode g u (stdPort g r u d))=true:=by
  have ht:=make_ok hg.1 hg.2.1 hg.2.2.1 hg.2.2.2 r1 r4
  have hne:u≠d:=fun e=>h1 (by unfold stdPort;rw[if_pos e])
  have:=(hop (m:=⟨g,[]⟩) ht hu hd hne).nd
  rw[makeT_at hu hd] at this
  exact this
theorem std_ranks {g:Grid} {r s:Int} (hg:1≤g.w∧g.w≤4∧1≤g.h∧g.h≤4) (r1:1≤r) (r3:r≤3) (s1:1≤s) (s3:s≤3):Ranks ⟨g,[]⟩ (makeT g r) (makeT g s) (fun c a p=>if c=1 then rkPort g s a p else rkPort g r a p) 50:=by
  refine⟨fun c a p=>?_,fun c u d c0 c1 hu hd=>?_⟩
  · try dsimp only
    split
    · exact Nat.min_le_left _ _
    · exact Nat.min_le_left _ _
  · unfold tabOf
    have hm:(⟨g,[]⟩:Mesh).g=g:=rfl
    rw[hm] at hu hd
    by_cases hc:c=1
    · rw[if_pos hc,if_pos hc,if_pos hc,makeT_at hu hd]
      intro h1
      rw[makeT_at (std_next hg s1 (by omega) hu hd h1) hd]
      exact rk_up s1 s3 hu hd h1
    · rw[if_neg hc,if_neg hc,if_neg hc,makeT_at hu hd]
      intro h1
      rw[makeT_at (std_next hg r1 (by omega) hu hd h1) hd]
      exact rk_up r1 r3 hu hd h1
theorem newN_own {m:Mesh} {pa pb:List Int} {a p c:Int} (ha:isNode m.g a=true) (p0:0≤p) (p4:p≤4) (c0:0≤c) (c1:c≤1):ownAt (newN m pa pb) a p c=-1:=by
  have h1:=isNode_iff.1 ha
  have hc:=count_nat m.g
  unfold ownAt
  obtain⟨k,hk⟩:∃ k:Nat,10*a+2*p+c=(k:Int):=⟨(10*a+2*p+c).toNat,by omega⟩
  rw[hk]
  exact ri_rep (by omega)
theorem WE_new (m:Mesh) (pa pb:List Int):WE (newN m pa pb):=by
  refine⟨fun _=>none,fun _=>none,fun _=>none,fun _ _=>none,⟨fun b _ _=>?_,fun a _ _=>?_,fun a c _ _=>?_,fun _ _ _ _ _=>rfl,fun a p c hp c0 c1=>?_,fun a p p' c hp hp' c0 c1 h _=>?_⟩,⟨fun a j c t _ _ _ _ e=>(by cases e),fun a p c t _ _ _ e=>(by unfold dn at e;split at e <;> cases e),fun a p c ha p0 p4 c0 c1 e=>absurd (newN_own (m:=m) (pa:=pa) (pb:=pb) ha p0 p4 c0 c1) e,fun a q c _ _ _ _ _ e=>absurd rfl e⟩⟩
  · rw[show rl (newN m pa pb).bufs b=[] from rl_replicate _ _];rfl
  · rw[show rl (newN m pa pb).srcs a=[] from rl_replicate _ _];rfl
  · rw[show rl (newN m pa pb).arrs a=[] from rl_replicate _ _];rfl
  · left
    exact⟨newN_own (m:=m) (pa:=pa) (pb:=pb) hp.1 hp.2.1 hp.2.2.1 c0 c1,by unfold dn;split <;> rfl⟩
  · exfalso
    rw[newN_own (m:=m) (pa:=pa) (pb:=pb) hp.1 hp.2.1 hp.2.2.1 c0 c1] at h
    omega
theorem run_flits {p:Packet} (h1:1≤p.len):∀ k:Nat,(k:Int)≤p.len→runF none (flitsTo p k)=some (if k=0∨(k:Int)=p.len then none else some (p.id,p.dst,p.cls)):=by
  intro k
  induction k with
  | zero=>intro _;simp[flitsTo,runF]
  | succ k ih=>
    intro hk
    rw[flitsTo_succ,run_snoc _ _ _ _ (ih (by omega))]
    have hx:nx (if k=0∨(k:Int)=p.len then none else some (p.id,p.dst,p.cls)) (flitAt p k)=some (aft (flitAt p k)):=by
      refine nx_of (fun hh=>?_) (fun hh=>?_)
      · have:(k:Int)=0:=by simpa [flitAt] using hh
        rw[if_pos (.inl (by omega))]
      · have h0:¬ (k:Int)=0:=by simpa [flitAt] using hh
        rw[if_neg (by omega)]
        rfl
    rw[hx]
    unfold aft flitAt fid
    by_cases e:(k:Int)=p.len - 1
    · rw[if_pos (by simpa using e),if_pos (.inr (by push_cast;omega))]
    · rw[if_neg (by simp[e]),if_neg (fun h9=>by
        rcases h9 with h9|h9
        · omega
        · push_cast at h9
          omega)]
theorem WE_send {n:Net} {p:Packet} (h:WE n) (hs:sendOk n p=true) (ok:netOk n=true):WE (sendN n p):=by
  obtain⟨so,si,ss,sa,hw,hx⟩:=h
  simp only[sendOk,Bool.and_eq_true] at hs
  have hp:=hs.1
  obtain⟨nd,_,_,_,l1,l5⟩:=packet_parts hp
  have nd1:=isNode_iff.1 nd
  obtain⟨_,_,_,_,hsl,_⟩:=netOk_parts ok
  refine⟨so,si,ss,sa,⟨hw.buf,fun a a0 a1=>?_,hw.arr,hw.loc,hw.own,hw.uniq⟩,⟨hx.cv,hx.dr,hx.cl,hx.bd⟩⟩
  have e1:(sendN n p).srcs=n.srcs.set p.src.toNat (rl n.srcs p.src++flitsOf n.mesh.g p):=rfl
  rw[e1] at a1 ⊢
  rw[List.length_set] at a1
  rw[rl_setI nd1.1 (by omega) a a0]
  by_cases e:a=p.src
  · rw[if_pos e,run_app _ _ _ _ (by rw[←e];exact hw.src a a0 a1),flitsOf_yes hp,run_flits l1 _ (by omega)]
    rw[if_pos (.inr (by omega))]
  · rw[if_neg e]
    exact hw.src a a0 a1
theorem WE_snd {n:Net} {p:Packet} (h:WE n) (ok:netOk n=true):WE (sndN n p):=by
  unfold sndN
  split
  · rename_i hs;exact WE_send h hs ok
  · exact h
theorem WE_sndTo {n:Net} (h:WE n) (ok:netOk n=true) (l:List Packet):∀ k,WE (sndTo n l k):=by
  intro k
  induction k with
  | zero=>exact h
  | succ k ih=>exact WE_snd ih (sndTo_ok ok l k)
theorem WE_sendAll {n:Net} (h:WE n) (l:List Packet):WE (sendAllN n l):=by
  unfold sendAllN
  split
  · rename_i hc
    simp only[canAll,Bool.and_eq_true] at hc
    exact WE_sndTo h hc.1 l _
  · exact h
theorem WE_run {n:Net} (ok:netOk n=true) (h:WE n):∀ k:Nat,n.time+k≤1000000→WE (runN n k):=by
  intro k
  induction k with
  | zero=>intro _;exact h
  | succ k ih=>
    intro hk
    exact WE_step (runN_ok ok k (by omega)) (ih (by omega))
end Go.Proofs.YtodbglncccgdbaaGreat
namespace Go.Proofs.YtodbglncccgdbaaGreat
open Go.RowKit Go.Proofs.YtodbglncccgdbaaGreatW.PrintWords
open NoC
theorem rl_set (l:List (List Flit)) (i:Nat) (x:List Flit) (b:Int) (b0:0≤b):rl (l.set i x) b=if b=(i:Int)∧i<l.length then x else rl l b:=by
  unfold rl
  rw[List.getD_eq_getElem?_getD,List.getD_eq_getElem?_getD,List.getElem?_set]
  by_cases h:i=b.toNat
  · have hb:b=(i:Int):=by omega
    subst h
    by_cases hl:b.toNat<l.length
    · simp[hl,←hb]
    · simp[hl,List.getElem?_eq_none (by omega:l.length≤b.toNat)]
  · have:¬ b=(i:Int):=by omega
    simp[h,this]
theorem flits_len {g:Grid} {p:Packet} (h:packetOk g p=true):((flitsOf g p).length:Int)=p.len:=by
  obtain⟨_,_,_,_,h5,_⟩:=packet_parts h
  rw[flitsOf_yes h,flitsTo_len];omega
theorem snd_mesh (n:Net) (l:List Packet):∀ k,(sndTo n l k).mesh=n.mesh:=fun k=>(sndTo_rest n l k).2.2.1
theorem snd_room (n:Net) (l:List Packet) (h0:∀ a,(rl n.srcs a).length=0):∀ k:Nat,∀ a:Int,0≤a→(rl (sndTo n l k).srcs a).length≤5*k:=by
  intro k
  induction k with
  | zero=>intro a _;show (rl n.srcs a).length≤0;rw[h0];omega
  | succ k ih=>
    intro a ha
    show (rl (sndN (sndTo n l k) (rp l k)).srcs a).length≤_
    unfold sndN
    split
    · rename_i hs
      simp only[sendOk,Bool.and_eq_true,decide_eq_true_eq] at hs
      obtain⟨hn,_,_,_,h5,h6⟩:=packet_parts hs.1
      have hn0:=(isNode_iff.1 hn).1
      have hl:=flits_len hs.1
      show (rl ((sndTo n l k).srcs.set (rp l k).src.toNat _) a).length≤_
      rw[rl_set _ _ _ _ ha]
      split
      · rename_i h
        rw[List.length_append]
        have:=ih (rp l k).src hn0
        omega
      · have:=ih a ha;omega
    · have:=ih a ha;omega
theorem snd_all {g:Grid} {n:Net} {l:List Packet} (hm:n.mesh.g=g) (h0:∀ a,(rl n.srcs a).length=0) (hl:l.length≤6) (hp:∀ j:Nat,j<l.length→packetOk g (rp l j)=true):∀ k:Nat,k≤l.length→cntTo n l k=(k:Int):=by
  intro k
  induction k with
  | zero=>intro _;rfl
  | succ k ih=>
    intro hk
    have h1:=snd_room n l h0 k (rp l k).src (by
      obtain⟨h,_⟩:=packet_parts (hp k (by omega))
      exact(isNode_iff.1 h).1)
    obtain⟨_,_,_,_,h5,h6⟩:=packet_parts (hp k (by omega))
    have hs:sendOk (sndTo n l k) (rp l k)=true:=by
      unfold sendOk
      rw[snd_mesh,hm,hp k (by omega),decide_eq_true (by omega)];rfl
    rw[cntTo,if_pos hs,ih (by omega)]
    omega
structure St0 (g:Grid) (r s:Int) (l:List Packet):Prop where
  g1:1≤g.w∧g.w≤4∧1≤g.h∧g.h≤4∧2≤nodeCount g
  r1:1≤r∧r≤4∧1≤s∧s≤4
  dr:Drawn g l
def nw0 (g:Grid) (r s:Int):Net:=newN ⟨g,[]⟩ (makeT g r) (makeT g s)
def stt (g:Grid) (r s:Int) (l:List Packet):Net:=startN ⟨g,[]⟩ (makeT g r) (makeT g s) l
namespace St0
variable {g:Grid} {r s:Int} {l:List Packet}
theorem cls (h:St0 g r s l):classesOk ⟨g,[]⟩ (makeT g r) (makeT g s)=true:=std_classes ⟨h.g1.1,h.g1.2.1,h.g1.2.2.1,h.g1.2.2.2.1⟩ h.r1
theorem nok (h:St0 g r s l):netOk (nw0 g r s)=true:=newN_ok h.cls
theorem can (h:St0 g r s l):canAll (nw0 g r s) l=true:=by
  unfold canAll
  rw[h.nok,decide_eq_true (by have:=h.dr.1;omega)];rfl
theorem new (h:St0 g r s l):netNewN ⟨g,[]⟩ (makeT g r) (makeT g s)=nw0 g r s:=by
  unfold netNewN
  rw[if_pos h.cls];rfl
theorem src0 (g:Grid) (r s a:Int):(rl (nw0 g r s).srcs a).length=0:=by
  have:rl (nw0 g r s).srcs a=[]:=rl_replicate _ _
  rw[this];rfl
theorem buf0 (g:Grid) (r s a:Int):rl (nw0 g r s).bufs a=[]:=rl_replicate _ _
theorem all (h:St0 g r s l):sendAllK (nw0 g r s) l=(l.length:Int):=by
  unfold sendAllK
  rw[if_pos h.can]
  exact snd_all (g:=g) rfl (src0 g r s) h.dr.1 (fun j hj=>(h.dr.2 j hj).1) _ (Nat.le_refl _)
theorem ok (h:St0 g r s l):netOk (stt g r s l)=true:=sendAll_ok h.nok l
theorem time (g:Grid) (r s:Int) (l:List Packet):(stt g r s l).time=0:=(sendAll_rest (nw0 g r s) l).1
theorem we (h:St0 g r s l):WE (stt g r s l):=WE_sendAll (WE_new ⟨g,[]⟩ (makeT g r) (makeT g s)) l
theorem bufs (g:Grid) (r s:Int) (l:List Packet) (b:Int):rl (stt g r s l).bufs b=[]:=by
  have e:(stt g r s l).bufs=(nw0 g r s).bufs:=(sendAll_rest (nw0 g r s) l).2.2.2.2.2
  rw[e];exact buf0 g r s b
theorem mesh (g:Grid) (r s:Int) (l:List Packet):(stt g r s l).mesh=⟨g,[]⟩:=(sendAll_rest (nw0 g r s) l).2.2.1
theorem tabs (g:Grid) (r s:Int) (l:List Packet):(stt g r s l).pa=makeT g r∧(stt g r s l).pb=makeT g s:=⟨(sendAll_rest (nw0 g r s) l).2.2.2.1,(sendAll_rest (nw0 g r s) l).2.2.2.2.1⟩
theorem lc (g:Grid) (r s:Int) (l:List Packet):LC (stt g r s l):=fun a q c f _ _ _ _ _ hf=>by rw[bufs] at hf;cases hf
theorem safe (h:St0 g r s l) (r3:r≤3) (s3:s≤3):Safe (stt g r s l):=by
  have hr:=std_ranks (g:=g) ⟨h.g1.1,h.g1.2.1,h.g1.2.2.1,h.g1.2.2.2.1⟩ h.r1.1 r3 h.r1.2.2.1 s3
  rw[←mesh g r s l,←(tabs g r s l).1,←(tabs g r s l).2] at hr
  exact⟨h.ok,h.we,lc g r s l,⟨_,_,hr⟩⟩
theorem arrs (g:Grid) (r s:Int) (l:List Packet):∀ x∈(stt g r s l).arrs,x.length≤1048576:=start_arrs _ _ _ _
theorem moves (h:St0 g r s l) (r3:r≤3) (s3:s≤3):movesAlwaysN (stt g r s l) 80=true:=by
  unfold movesAlwaysN canRunN
  have hsafe:=h.safe r3 s3
  have hm:=hsafe.always 80 0 (by rw[time];omega)
  have e:(80:Int).toNat=80:=rfl
  rw[h.ok,e,hm,time]
  rfl
end St0
theorem makeT_256 {g:Grid} {r:Int}:(makeT g r).length≤256:=by
  have:=count_le g
  unfold makeT
  rw[makeTo_len]
  have h:(nodeCount g).toNat≤16:=by omega
  exact Nat.mul_le_mul h h
end Go.Proofs.YtodbglncccgdbaaGreat
