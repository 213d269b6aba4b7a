/- Lemmas for laws of this seat, for all inputs: M M2 M3 M4 MN MR Std. -/
import Derived.WalkKit
set_option linter.unusedVariables false
set_option linter.unusedSimpArgs false
namespace NoC
structure Grid where
  w:Int
  h:Int
deriving DecidableEq
structure Mesh where
  g:Grid
  br:List Int
deriving DecidableEq
structure Packet where
  id:Int
  src:Int
  dst:Int
  cls:Int
  len:Int
deriving DecidableEq
structure Flit where
  pk:Int
  dst:Int
  cls:Int
  head:Bool
  tail:Bool
deriving DecidableEq
structure Net where
  mesh:Mesh
  pa:List Int
  pb:List Int
  bufs:List (List Flit)
  owners:List Int
  turns:List Int
  srcs:List (List Flit)
  arrs:List (List Flit)
  time:Int
deriving DecidableEq
structure Grant where
  node:Int
  port:Int
  input:Int
deriving DecidableEq
def z0:Flit:=⟨0,0,0,false,false⟩
def zp:Packet:=⟨0,0,0,0,0⟩
def ri (l:List Int) (i:Int):Int:=l.getD i.toNat 0
def rl (l:List (List Flit)) (i:Int):List Flit:=l.getD i.toNat []
def rf (l:List Flit) (i:Int):Flit:=l.getD i.toNat z0
def rp (l:List Packet) (i:Int):Packet:=l.getD i.toNat zp

def inside (n lo hi:Int):Bool:=decide (lo≤n) && decide (n≤hi)
def gridOk (g:Grid):Bool:=inside g.w 1 4 && inside g.h 1 4
def nodeCount (g:Grid):Int:=if gridOk g then g.w*g.h else 0
def isNode (g:Grid) (a:Int):Bool:=inside a 0 (nodeCount g - 1)
def nodeAt (g:Grid) (x y:Int):Int:=if gridOk g && inside x 0 (g.w - 1) && inside y 0 (g.h - 1) then y*g.w+x else -1
def nextNode (g:Grid) (a p:Int):Int:=
  if isNode g a then
    if p=0 then nodeAt g (a % g.w) (a / g.w - 1)
    else if p=1 then nodeAt g (a % g.w+1) (a / g.w)
    else if p=2 then nodeAt g (a % g.w) (a / g.w+1)
    else if p=3 then nodeAt g (a % g.w - 1) (a / g.w)
    else if p=4 then a else -1
  else -1
def opposite (p:Int):Int:=if p=4 then 4 else if inside p 0 3 then (p+2) % 4 else -1
def leads (g:Grid) (c:Int):Bool:=inside c 0 (4*nodeCount g - 1) && decide (0≤nextNode g (c / 4) (c % 4))
def allI (n:Nat) (p:Nat→Bool):Bool:=(List.range n).all p
def joinI {α:Type} (n:Nat) (f:Nat→List α):List α:=(List.range n).flatMap f
def brokenAt (m:Mesh) (i:Nat):Bool:=leads m.g (ri m.br i) && (i == 0 || decide (ri m.br ((i - 1:Nat):Int)<ri m.br i))
def meshOk (m:Mesh):Bool:=gridOk m.g && allI m.br.length (brokenAt m)
def has (l:List Int) (x:Int):Bool:=l.contains x
def live (m:Mesh) (c:Int):Bool:=leads m.g c && !(has m.br c)
def hasChannel (m:Mesh) (c:Int):Bool:=meshOk m && live m c
def sized (m:Mesh) (t:List Int):Bool:=meshOk m && decide ((t.length:Int)=nodeCount m.g*nodeCount m.g)
def entry (m:Mesh) (t:List Int) (a b:Int):Int:=ri t (a*nodeCount m.g+b)
def portAt (m:Mesh) (t:List Int) (a b:Int):Int:=
  if sized m t && isNode m.g a && isNode m.g b && inside (entry m t a b) 0 4 then entry m t a b else -1
def walkF (m:Mesh) (t:List Int) (goal:Int):Nat→Int→List Int→List Int
  | 0,_,_=>[]
  | k+1,at_,out=>
    if entry m t at_ goal=4 then (if at_=goal then out else [])
    else if inside (entry m t at_ goal) 0 3 && live m (4*at_+entry m t at_ goal) then
      walkF m t goal k (nextNode m.g at_ (entry m t at_ goal)) (out++[4*at_+entry m t at_ goal])
    else []
def walk (m:Mesh) (t:List Int) (a b:Int):List Int:=walkF m t b ((nodeCount m.g).toNat+1) a []
def tableOk (m:Mesh) (t:List Int):Bool:=
  sized m t && allI (nodeCount m.g).toNat fun a=>allI (nodeCount m.g).toNat fun b=>
    if a=b then entry m t a a == 4 else decide (0<(walk m t a b).length)
def classesOk (m:Mesh) (pa pb:List Int):Bool:=tableOk m pa && tableOk m pb
def packetOk (g:Grid) (p:Packet):Bool:=inside p.id 1 9999 && isNode g p.src && isNode g p.dst && decide (p.src≠p.dst) && inside p.cls 0 1 && inside p.len 1 5
def flitsOf (g:Grid) (p:Packet):List Flit:=
  if packetOk g p then (List.range p.len.toNat).map fun (i:Nat)=>⟨p.id,p.dst,p.cls,i == 0,(i:Int) == p.len - 1⟩ else []


theorem allI_true {n:Nat} {p:Nat→Bool} (h:∀ i,i<n→p i=true):allI n p=true:=by
  simp[allI];exact h
theorem allI_false {n:Nat} {p:Nat→Bool} (k:Nat) (hk:k<n) (h:p k=false):allI n p=false:=by
  rw[Bool.eq_false_iff]
  intro ha
  simp[allI] at ha
  rw[ha k hk] at h
  exact absurd h (by simp)
theorem allI_iff {n:Nat} {p:Nat→Bool}:allI n p=true↔∀ i,i<n→p i=true:=by simp[allI]
theorem joinI_succ {α:Type} (n:Nat) (f:Nat→List α):joinI (n+1) f=joinI n f++f n:=by
  simp[joinI,List.range_succ]
theorem meshOk_no {m:Mesh} (k:Nat) (hk:k<m.br.length) (h:brokenAt m k=false):meshOk m=false:=by
  unfold meshOk
  rw[allI_false k hk h,Bool.and_false]
theorem meshOk_yes {m:Mesh} (h:∀ k,k<m.br.length→brokenAt m k=true):meshOk m=gridOk m.g:=by
  unfold meshOk
  rw[allI_true h,Bool.and_true]
theorem brokenAt_no1 {m:Mesh} {k:Nat} (h:¬ leads m.g (ri m.br k)=true):brokenAt m k=false:=by
  simp[brokenAt,h]
theorem brokenAt_no2 {m:Mesh} {k:Nat} (h0:0<k) (h:ri m.br k≤ri m.br ((k - 1:Nat):Int)):brokenAt m k=false:=by
  have:¬ k=0:=by omega
  have:¬ ri m.br ((k - 1:Nat):Int)<ri m.br k:=by omega
  simp[brokenAt, *]
theorem brokenAt_yes1 {m:Mesh} {k:Nat} (hl:leads m.g (ri m.br k)=true) (h:ri m.br ((k - 1:Nat):Int)<ri m.br k):brokenAt m k=true:=by
  simp[brokenAt,hl,h]
theorem brokenAt_yes0 {m:Mesh} {k:Nat} (hl:leads m.g (ri m.br k)=true) (h:¬ 0<k):brokenAt m k=true:=by
  obtain rfl:k=0:=by omega
  simp only[brokenAt,hl]
  rfl

theorem ri_get (l:List Int) (k:Nat) (h:k<l.length):ri l (k:Int)=l[k]:=by
  simp[ri,List.getD_eq_getElem?_getD,h]
theorem contains_yes {l:List Int} {x:Int} (k:Nat) (hk:k<l.length) (h:ri l k=x):has l x=true:=by
  unfold has
  rw[ri_get l k hk] at h
  rw[List.contains_iff_mem,←h]
  exact List.getElem_mem hk
theorem contains_no {l:List Int} {x:Int} (h:∀ j:Nat,j<l.length→¬ ri l j=x):has l x=false:=by
  unfold has
  rw[Bool.eq_false_iff]
  intro hc
  rw[List.contains_iff_mem] at hc
  obtain⟨k,hk,e⟩:=List.getElem_of_mem hc
  exact h k hk (by rw[ri_get l k hk];exact e)
def idx (l:List Int) (x:Int):Int:=if has l x then (l.findIdx (· == x):Nat) else -1
theorem idx_yes {l:List Int} {x:Int} (k:Nat) (hk:k<l.length) (h:ri l k=x) (hb:∀ j:Nat,j<k→¬ ri l j=x):idx l x=k:=by
  unfold idx
  rw[if_pos (contains_yes k hk h)]
  have:l.findIdx (· == x)=k:=by
    rw[List.findIdx_eq hk]
    refine⟨by rw[ri_get l k hk] at h;simpa using h,fun j hj=>?_⟩
    have:=hb j hj
    rw[ri_get l j (by omega)] at this
    simpa using this
  rw[this]
theorem idx_no {l:List Int} {x:Int} (h:∀ j:Nat,j<l.length→¬ ri l j=x):idx l x=-1:=by
  unfold idx
  rw[contains_no h]
  rfl
theorem idx_contains (l:List Int) (x:Int):decide (0≤idx l x)=has l x:=by
  unfold idx
  split
  · rename_i h;rw[h];simp
  · rename_i h;simp only[Bool.not_eq_true] at h;rw[h];rfl
def wt (m:Mesh) (t:List Int) (a b:Int):List Int:=if (decide (a≠b) && sized m t && isNode m.g a && isNode m.g b)=true then walk m t a b else []

theorem sized_iff {m:Mesh} {t:List Int}:sized m t=true↔meshOk m=true∧(t.length:Int)=nodeCount m.g*nodeCount m.g:=by
  simp[sized]
theorem isNode_iff {g:Grid} {a:Int}:isNode g a=true↔0≤a∧a<nodeCount g:=by
  simp only[isNode,inside,Bool.and_eq_true,decide_eq_true_eq]
  omega
theorem inside_iff {n lo hi:Int}:inside n lo hi=true↔lo≤n∧n≤hi:=by simp[inside]
theorem count_le (g:Grid):0≤nodeCount g∧nodeCount g≤16:=by
  unfold nodeCount
  split
  · rename_i h
    simp only[gridOk,inside,Bool.and_eq_true,decide_eq_true_eq] at h
    obtain⟨⟨a,b⟩,c,d⟩:=h
    have h1:=Int.mul_le_mul a c (by omega) (by omega)
    have h2:=Int.mul_le_mul b d (by omega) (by omega)
    omega
  · omega
theorem entry_place {g:Grid} {a b:Int} (ha:isNode g a=true) (hb:isNode g b=true) :
    0≤a*nodeCount g∧a*nodeCount g≤240∧0≤a*nodeCount g+b∧a*nodeCount g+b<nodeCount g*nodeCount g:=by
  rw[isNode_iff] at ha hb
  have hc:=count_le g
  have h1:0≤a*nodeCount g:=Int.mul_nonneg ha.1 hc.1
  have h2:(a+1)*nodeCount g≤nodeCount g*nodeCount g:=Int.mul_le_mul_of_nonneg_right (by omega) hc.1
  have h3:nodeCount g*nodeCount g≤16*16:=Int.mul_le_mul hc.2 hc.2 hc.1 (by omega)
  have h4:a*nodeCount g≤15*16:=Int.mul_le_mul (by omega) hc.2 hc.1 (by omega)
  rw[Int.add_mul,Int.one_mul] at h2
  omega
theorem portAt_eq {m:Mesh} {t:List Int} {a b:Int} (hs:sized m t=true) (ha:isNode m.g a=true) (hb:isNode m.g b=true) :
    portAt m t a b=if inside (entry m t a b) 0 4 then entry m t a b else -1:=by
  simp[portAt,hs,ha,hb]
theorem portAt_range (m:Mesh) (t:List Int) (a b:Int):-1≤portAt m t a b∧portAt m t a b≤4:=by
  unfold portAt
  split
  · rename_i h
    simp only[Bool.and_eq_true,inside_iff] at h
    omega
  · omega
def walkFrom (m:Mesh) (t:List Int) (b:Int) (at_:Int) (out:List Int):List Int:=
  if sized m t then walkF m t b ((nodeCount m.g).toNat+1 - out.length) at_ out else []
theorem walk_bad {m:Mesh} {t:List Int} {b at_:Int} {out:List Int} (ha:isNode m.g at_=true) (hb:isNode m.g b=true) (hl:out.length≤(nodeCount m.g).toNat)
    (hp:portAt m t at_ b<0):walkFrom m t b at_ out=[]:=by
  unfold walkFrom
  split
  · rename_i hs
    rw[portAt_eq hs ha hb] at hp
    obtain⟨k,hk⟩:∃ k,(nodeCount m.g).toNat+1 - out.length=k+1:=⟨(nodeCount m.g).toNat - out.length,by omega⟩
    rw[hk]
    unfold walkF
    have hni:¬ inside (entry m t at_ b) 0 4=true:=by
      intro h
      rw[if_pos h] at hp
      rw[inside_iff] at h
      omega
    rw[inside_iff] at hni
    rw[if_neg (by omega),if_neg (by rw[Bool.and_eq_true,inside_iff];omega)]
  · rfl
theorem walk_port {m:Mesh} {t:List Int} {b at_:Int} (ha:isNode m.g at_=true) (hb:isNode m.g b=true)
    (hp:0≤portAt m t at_ b):sized m t=true∧entry m t at_ b=portAt m t at_ b:=by
  have hs:sized m t=true:=by
    cases h:sized m t
    · simp[portAt,h] at hp
    · rfl
  refine⟨hs,?_⟩
  rw[portAt_eq hs ha hb] at hp ⊢
  split
  · rfl
  · rename_i h;rw[if_neg h] at hp;omega
theorem walk_here {m:Mesh} {t:List Int} {b at_:Int} {out:List Int} (ha:isNode m.g at_=true) (hb:isNode m.g b=true) (hl:out.length≤(nodeCount m.g).toNat)
    (hp:portAt m t at_ b=4):walkFrom m t b at_ out=if at_=b then out else []:=by
  obtain⟨hs,he⟩:=walk_port (m:=m) (t:=t) ha hb (by omega)
  unfold walkFrom
  rw[if_pos hs]
  obtain⟨k,hk⟩:∃ k,(nodeCount m.g).toNat+1 - out.length=k+1:=⟨(nodeCount m.g).toNat - out.length,by omega⟩
  rw[hk]
  unfold walkF
  rw[if_pos (by omega)]
theorem walk_stop {m:Mesh} {t:List Int} {b at_:Int} {out:List Int} (ha:isNode m.g at_=true) (hb:isNode m.g b=true) (hl:out.length≤(nodeCount m.g).toNat)
    (h0:0≤portAt m t at_ b) (h4:¬ portAt m t at_ b=4) (hc:hasChannel m (4*at_+portAt m t at_ b)=false):walkFrom m t b at_ out=[]:=by
  obtain⟨hs,he⟩:=walk_port (m:=m) (t:=t) ha hb h0
  unfold walkFrom
  rw[if_pos hs]
  obtain⟨k,hk⟩:∃ k,(nodeCount m.g).toNat+1 - out.length=k+1:=⟨(nodeCount m.g).toNat - out.length,by omega⟩
  rw[hk]
  unfold walkF
  rw[he,if_neg h4]
  have hm:=(sized_iff.1 hs).1
  have:live m (4*at_+portAt m t at_ b)=false:=by simpa [hasChannel,hm] using hc
  rw[this,Bool.and_false]
  rfl
theorem walk_full {m:Mesh} {t:List Int} {b at_:Int} {out:List Int} (ha:isNode m.g at_=true) (hb:isNode m.g b=true) (hl:(out.length:Int)=nodeCount m.g)
    (h0:0≤portAt m t at_ b) (h4:¬ portAt m t at_ b=4):walkFrom m t b at_ out=[]:=by
  obtain⟨hs,he⟩:=walk_port (m:=m) (t:=t) ha hb h0
  unfold walkFrom
  rw[if_pos hs,show (nodeCount m.g).toNat+1 - out.length=0+1 by omega]
  unfold walkF
  rw[he,if_neg h4]
  split
  · rfl
  · rfl
theorem walk_on {m:Mesh} {t:List Int} {b at_:Int} {out:List Int} (ha:isNode m.g at_=true) (hb:isNode m.g b=true) (hl:(out.length:Int)<nodeCount m.g)
    (h0:0≤portAt m t at_ b) (h4:¬ portAt m t at_ b=4) (hc:hasChannel m (4*at_+portAt m t at_ b)=true) :
    walkFrom m t b at_ out=walkFrom m t b (nextNode m.g at_ (portAt m t at_ b)) (out++[4*at_+portAt m t at_ b]):=by
  obtain⟨hs,he⟩:=walk_port (m:=m) (t:=t) ha hb h0
  have hr:=portAt_range m t at_ b
  unfold walkFrom
  rw[if_pos hs,if_pos hs,show (nodeCount m.g).toNat+1 - out.length=((nodeCount m.g).toNat+1 - (out++[4*at_+portAt m t at_ b]).length)+1 by simp;omega]
  rw[walkF]
  rw[he,if_neg h4]
  have hm:=(sized_iff.1 hs).1
  have:live m (4*at_+portAt m t at_ b)=true:=by simpa [hasChannel,hm] using hc
  rw[this,Bool.and_true,if_pos (inside_iff.2 (by omega))]
theorem wt_start {m:Mesh} {t:List Int} {a b:Int} (hab:¬ a=b) (ha:isNode m.g a=true) (hb:isNode m.g b=true):wt m t a b=walkFrom m t b a []:=by
  simp[wt,walkFrom,walk,hab,ha,hb]
theorem chan_div {a p:Int} (h0:0≤p) (h3:p≤3):(4*a+p) / 4=a∧(4*a+p) % 4=p:=by omega
theorem next_node {m:Mesh} {a p:Int} (h0:0≤p) (h3:p≤3) (hc:hasChannel m (4*a+p)=true):isNode m.g (nextNode m.g a p)=true:=by
  simp only[hasChannel,live,leads,Bool.and_eq_true,decide_eq_true_eq] at hc
  obtain⟨_,⟨_,h⟩,_⟩:=hc
  rw[(chan_div h0 h3).1,(chan_div h0 h3).2] at h
  have hcl:=count_le m.g
  revert h
  unfold nextNode
  have hn:∀ x y,0≤nodeAt m.g x y→isNode m.g (nodeAt m.g x y)=true:=by
    intro x y h
    unfold nodeAt at h ⊢
    split
    · rename_i hi
      rw[if_pos hi] at h
      simp only[Bool.and_eq_true,inside_iff] at hi
      obtain⟨⟨hg,hx⟩,hy⟩:=hi
      rw[isNode_iff]
      simp only[nodeCount,hg,if_true]
      have:(y+1)*m.g.w≤m.g.h*m.g.w:=Int.mul_le_mul_of_nonneg_right (by omega) (by omega)
      rw[Int.add_mul,Int.one_mul,Int.mul_comm m.g.h] at this
      omega
    · rename_i hi;rw[if_neg hi] at h;omega
  split
  · split
    · exact hn _ _
    · split
      · exact hn _ _
      · split
        · exact hn _ _
        · split
          · exact hn _ _
          · split
            · intro _;assumption
            · intro h;omega
  · intro h;omega

theorem walk_over {m:Mesh} {t:List Int} {b at_:Int} {out:List Int} (hl:(nodeCount m.g).toNat<out.length):walkFrom m t b at_ out=[]:=by
  unfold walkFrom
  rw[show (nodeCount m.g).toNat+1 - out.length=0 by omega]
  split <;> rfl
theorem walkE {m:Mesh} {t:List Int} {b at_:Int} {out:List Int} (hs:sized m t=true) (hl:out.length≤(nodeCount m.g).toNat) :
    walkFrom m t b at_ out=if entry m t at_ b=4 then (if at_=b then out else [])
      else if inside (entry m t at_ b) 0 3 && live m (4*at_+entry m t at_ b) then walkFrom m t b (nextNode m.g at_ (entry m t at_ b)) (out++[4*at_+entry m t at_ b]) else []:=by
  unfold walkFrom
  rw[if_pos hs,if_pos hs]
  obtain⟨k,hk⟩:∃ k,(nodeCount m.g).toNat+1 - out.length=k+1:=⟨(nodeCount m.g).toNat - out.length,by omega⟩
  rw[hk,walkF,show (nodeCount m.g).toNat+1 - (out++[4*at_+entry m t at_ b]).length=k by simp;omega]
theorem next_live {m:Mesh} {a p:Int} (h0:0≤p) (h3:p≤3) (hm:meshOk m=true) (hc:live m (4*a+p)=true):isNode m.g (nextNode m.g a p)=true:=
  next_node h0 h3 (by simp[hasChannel,hm,hc])

def nN (g:Grid):Nat:=(nodeCount g).toNat
def diagOk (m:Mesh) (t:List Int):Bool:=allI (nN m.g) fun a=>entry m t a a == 4
def pairOk (m:Mesh) (t:List Int) (a b:Nat):Bool:=decide (a=b) || decide (0<(wt m t a b).length)
def pairsOk (m:Mesh) (t:List Int):Bool:=allI (nN m.g) fun a=>allI (nN m.g) (pairOk m t a)
def cellOk (m:Mesh) (t:List Int) (a b:Nat):Bool:=if a=b then entry m t a a == 4 else decide (0<(walkFrom m t b a []).length)
theorem isNode_nat {g:Grid} {a:Nat} (h:a<nN g):isNode g (a:Int)=true:=by
  unfold nN at h
  exact isNode_iff.2 ⟨by omega,by omega⟩
theorem tableOk_cells (m:Mesh) (t:List Int):tableOk m t=(sized m t && allI (nN m.g) fun a=>allI (nN m.g) (cellOk m t a)):=by
  unfold tableOk
  cases hs:sized m t
  · rfl
  · simp only[Bool.true_and]
    rw[Bool.eq_iff_iff,allI_iff,allI_iff]
    refine forall_congr' fun a=>forall_congr' fun ha=>?_
    rw[allI_iff,allI_iff]
    refine forall_congr' fun b=>forall_congr' fun hb=>?_
    unfold cellOk
    by_cases e:a=b
    · subst e;simp
    · rw[if_neg e,if_neg e]
      simp only[walkFrom,walk,hs,if_true,List.length_nil,Nat.sub_zero]
      exact⟨fun h=>decide_eq_true (of_decide_eq_true h),fun h=>decide_eq_true (of_decide_eq_true h)⟩
theorem tableOk_parts (m:Mesh) (t:List Int):tableOk m t=(sized m t && (diagOk m t && pairsOk m t)):=by
  rw[tableOk_cells]
  cases hs:sized m t
  · rfl
  · simp only[Bool.true_and]
    rw[Bool.eq_iff_iff,Bool.and_eq_true]
    unfold diagOk pairsOk
    rw[allI_iff,allI_iff,allI_iff]
    have key:∀ a b:Nat,a<nN m.g→b<nN m.g→(cellOk m t a b=true↔((a=b→(entry m t a a == 4)=true)∧pairOk m t a b=true)):=by
      intro a b ha hb
      unfold cellOk pairOk
      by_cases e:a=b
      · subst e;simp
      · have:¬ (a:Int)=(b:Int):=by omega
        rw[if_neg e]
        simp[e,wt_start this (isNode_nat ha) (isNode_nat hb)]
    constructor
    · intro h
      refine⟨fun a ha=>((key a a ha ha).1 (allI_iff.1 (h a ha) a ha)).1 rfl,fun a ha=>allI_iff.2 fun b hb=>((key a b ha hb).1 (allI_iff.1 (h a ha) b hb)).2⟩
    · rintro ⟨h1,h2⟩ a ha
      exact allI_iff.2 fun b hb=>(key a b ha hb).2 ⟨fun _=>h1 a ha,allI_iff.1 (h2 a ha) b hb⟩
def tabOf (pa pb:List Int) (cls:Int):List Int:=if cls=1 then pb else pa
def walkP (m:Mesh) (pa pb:List Int) (p:Packet):List Int:=wt m (tabOf pa pb p.cls) p.src p.dst
def zeroLoad (m:Mesh) (pa pb:List Int) (p:Packet):Int:=if (classesOk m pa pb && packetOk m.g p)=true then (walkP m pa pb p).length+p.len+1 else -1
theorem walkF_len (m:Mesh) (t:List Int) (b:Int):∀ (k:Nat) (a:Int) (out:List Int),(walkF m t b k a out).length≤out.length+k:=by
  intro k
  induction k with
  | zero=>intro a out;simp[walkF]
  | succ k ih=>
    intro a out
    unfold walkF
    split
    · split
      · omega
      · simp
    · split
      · have:=ih (nextNode m.g a (entry m t a b)) (out++[4*a+entry m t a b])
        simp only[List.length_append,List.length_singleton] at this
        omega
      · simp
theorem wt_len (m:Mesh) (t:List Int) (a b:Int):(wt m t a b).length≤17:=by
  unfold wt
  split
  · have:=walkF_len m t b ((nodeCount m.g).toNat+1) a []
    have hc:=count_le m.g
    unfold walk
    simp only[List.length_nil] at this
    omega
  · simp
theorem packetOk_len {g:Grid} {p:Packet} (h:packetOk g p=true):1≤p.len∧p.len≤5:=by
  simp only[packetOk,Bool.and_eq_true,inside_iff] at h
  exact h.2
theorem classesOk_sized {m:Mesh} {pa pb:List Int} (h:classesOk m pa pb=true):sized m pa=true∧sized m pb=true:=by
  simp only[classesOk,tableOk,Bool.and_eq_true] at h
  exact⟨h.1.1,h.2.1⟩
theorem same_get {x l:List Int} (h1:x.length=l.length) (h:∀ j:Nat,j<l.length→ri x j=ri l j):x=l:=by
  apply List.ext_getElem h1
  intro j a b
  have:=h j b
  rwa [ri_get x j a,ri_get l j b] at this
theorem set_get {x:List Int} {k:Nat} {v:Int} (hk:k<x.length) (j:Nat) (hj:j<x.length):ri (x.set k v) j=if k=j then v else ri x j:=by
  rw[ri_get _ j (by simpa using hj),List.getElem_set]
  split
  · rfl
  · rw[ri_get x j hj]
inductive Path (m:Mesh) (t:List Int) (b:Int):Int→List Int→Prop
  | here (h:entry m t b b=4):Path m t b b []
  | step {a:Int} {ws:List Int} (h4:¬ entry m t a b=4) (hi:inside (entry m t a b) 0 3=true) (hl:live m (4*a+entry m t a b)=true) (h:Path m t b (nextNode m.g a (entry m t a b)) ws):Path m t b a ((4*a+entry m t a b)::ws)
theorem walkF_path {m:Mesh} {t:List Int} {b:Int}:∀ (k:Nat) (a:Int) (out:List Int),walkF m t b k a out≠[]→∃ ws,walkF m t b k a out=out++ws∧Path m t b a ws:=by
  intro k
  induction k with
  | zero=>intro a out h;exact absurd rfl h
  | succ k ih=>
    intro a out h
    unfold walkF at h ⊢
    by_cases h4:entry m t a b=4
    · rw[if_pos h4] at h ⊢
      by_cases e:a=b
      · subst e
        rw[if_pos rfl]
        exact⟨[],by simp,Path.here h4⟩
      · rw[if_neg e] at h
        exact absurd rfl h
    · rw[if_neg h4] at h ⊢
      by_cases hc:(inside (entry m t a b) 0 3 && live m (4*a+entry m t a b))=true
      · rw[if_pos hc] at h ⊢
        obtain⟨ws,e,hp⟩:=ih _ _ h
        rw[Bool.and_eq_true] at hc
        exact⟨(4*a+entry m t a b)::ws,by rw[e];simp,Path.step h4 hc.1 hc.2 hp⟩
      · rw[if_neg hc] at h
        exact absurd rfl h
theorem Path.det {m:Mesh} {t:List Int} {b a:Int} {ws:List Int} (h:Path m t b a ws):∀ {vs:List Int},Path m t b a vs→ws=vs:=by
  induction h with
  | here h=>
    intro vs hv
    cases hv
    · rfl
    · rename_i h4 _ _ _
      first|exact absurd h h4|exact absurd h (by assumption)
  | step h4 hi hl h ih=>
    intro vs hv
    cases hv
    · rename_i h'
      exact absurd h' h4
    · rename_i h'
      rw[ih h']
theorem Path.suffix {m:Mesh} {t:List Int} {b a:Int} {ws:List Int} (h:Path m t b a ws):∀ {u v:List Int} {c:Int},ws=u++c::v→Path m t b (c / 4) (c::v):=by
  induction h with
  | here h=>intro u v c e;simp at e
  | @step a ws h4 hi hl h ih=>
    intro u v c e
    cases u with
    | nil=>
      simp only[List.nil_append,List.cons.injEq] at e
      obtain⟨rfl,rfl⟩:=e
      rw[inside_iff] at hi
      rw[show (4*a+entry m t a b) / 4=a by omega]
      exact Path.step h4 (inside_iff.2 hi) hl h
    | cons x u=>
      simp only[List.cons_append,List.cons.injEq] at e
      exact ih e.2
theorem Path.nodup {m:Mesh} {t:List Int} {b a:Int} {ws:List Int} (h:Path m t b a ws):ws.Nodup:=by
  induction h with
  | here h=>simp
  | @step a ws h4 hi hl h ih=>
    rw[List.nodup_cons]
    refine⟨fun hm=>?_,ih⟩
    obtain⟨u,v,e⟩:=List.append_of_mem hm
    have hp:=Path.step h4 hi hl h
    have hs:=hp.suffix (u:=(4*a+entry m t a b)::u) (v:=v) (c:=4*a+entry m t a b) (by rw[e];simp)
    rw[inside_iff] at hi
    rw[show (4*a+entry m t a b) / 4=a by omega] at hs
    have:=hp.det hs
    simp only[List.cons.injEq,true_and] at this
    rw[this] at e
    have:=congrArg List.length e
    simp at this
    omega
theorem Path.live {m:Mesh} {t:List Int} {b a:Int} {ws:List Int} (h:Path m t b a ws):∀ c∈ws,NoC.live m c=true:=by
  induction h with
  | here h=>simp
  | step h4 hi hl h ih=>
    intro c hc
    rcases List.mem_cons.1 hc with rfl|hc
    · exact hl
    · exact ih c hc
theorem live_range {m:Mesh} {c:Int} (h:live m c=true):0≤c∧c<4*nodeCount m.g:=by
  simp only[live,leads,Bool.and_eq_true,inside_iff] at h
  omega
theorem wt_path {m:Mesh} {t:List Int} {a b:Int}:(wt m t a b=[])∨Path m t b a (wt m t a b):=by
  unfold wt
  split
  · by_cases h:walk m t a b=[]
    · exact .inl h
    · obtain⟨ws,e,hp⟩:=walkF_path _ _ _ h
      right
      unfold walk
      rw[e]
      exact hp
  · exact .inl rfl
theorem wt_nodup (m:Mesh) (t:List Int) (a b:Int):(wt m t a b).Nodup:=by
  rcases wt_path (m:=m) (t:=t) (a:=a) (b:=b) with h|h
  · rw[h];simp
  · exact h.nodup
theorem wt_range {m:Mesh} {t:List Int} {a b c:Int} (h:c∈wt m t a b):0≤c∧c<4*nodeCount m.g:=by
  rcases wt_path (m:=m) (t:=t) (a:=a) (b:=b) with e|hp
  · rw[e] at h;simp at h
  · exact live_range (hp.live c h)

def arePk (m:Mesh) (pa pb:List Int) (l:List Packet):Bool:=classesOk m pa pb && l.all (packetOk m.g)
theorem rp_get (l:List Packet) (k:Nat) (h:k<l.length):rp l (k:Int)=l[k]:=by
  simp[rp,List.getD_eq_getElem?_getD,h]
theorem all_no {l:List Packet} {g:Grid} (k:Nat) (hk:k<l.length) (h:packetOk g (rp l k)=false):l.all (packetOk g)=false:=by
  rw[rp_get l k hk] at h
  rw[Bool.eq_false_iff]
  intro ha
  rw[List.all_eq_true] at ha
  rw[ha _ (List.getElem_mem hk)] at h
  cases h
theorem all_yes {l:List Packet} {g:Grid} (h:∀ k:Nat,k<l.length→packetOk g (rp l k)=true):l.all (packetOk g)=true:=by
  rw[List.all_eq_true]
  intro p hp
  obtain⟨k,hk,rfl⟩:=List.getElem_of_mem hp
  have:=h k hk
  rwa [rp_get l k hk] at this
theorem all_get {l:List Packet} {g:Grid} (h:l.all (packetOk g)=true) (k:Nat) (hk:k<l.length):packetOk g (rp l k)=true:=by
  rw[rp_get l k hk]
  exact List.all_eq_true.1 h _ (List.getElem_mem hk)
theorem take_snoc (l:List Packet) (k:Nat) (hk:k<l.length):l.take (k+1)=l.take k++[rp l k]:=by
  rw[rp_get l k hk,List.take_succ_eq_append_getElem hk]
def addsTo (m:Mesh) (pa pb:List Int) (p:Packet) (c:Int):Int:=if has (walkP m pa pb p) c then p.len else 0
def loadAt (m:Mesh) (pa pb:List Int) (l:List Packet) (c:Int):Int:=l.foldl (fun s p=>s+addsTo m pa pb p c) 0
def chans (m:Mesh):Nat:=(4*nodeCount m.g).toNat
def loadsL (m:Mesh) (pa pb:List Int) (l:List Packet):List Int:=(List.range (chans m)).map (fun (c:Nat)=>loadAt m pa pb l (c:Int))
theorem loadAt_snoc (m:Mesh) (pa pb:List Int) (l:List Packet) (p:Packet) (c:Int):loadAt m pa pb (l++[p]) c=loadAt m pa pb l c+addsTo m pa pb p c:=by
  simp[loadAt]
theorem loadAt_take (m:Mesh) (pa pb:List Int) (l:List Packet) (k:Nat) (hk:k<l.length) (c:Int):loadAt m pa pb (l.take (k+1)) c=loadAt m pa pb (l.take k) c+addsTo m pa pb (rp l k) c:=by
  rw[take_snoc l k hk,loadAt_snoc]
theorem loadsL_len (m:Mesh) (pa pb:List Int) (l:List Packet):(loadsL m pa pb l).length=chans m:=by simp[loadsL]
theorem loadsL_get (m:Mesh) (pa pb:List Int) (l:List Packet) (j:Nat) (h:j<chans m):ri (loadsL m pa pb l) j=loadAt m pa pb l j:=by
  rw[ri_get _ j (by rw[loadsL_len];exact h)]
  simp[loadsL]
theorem addsTo_range {m:Mesh} {pa pb:List Int} {p:Packet} (h:packetOk m.g p=true) (c:Int):0≤addsTo m pa pb p c∧addsTo m pa pb p c≤5:=by
  have:=packetOk_len h
  unfold addsTo
  split <;> omega
theorem loadAt_range {m:Mesh} {pa pb:List Int} {l:List Packet} (h:l.all (packetOk m.g)=true) (c:Int):∀ k,k≤l.length→0≤loadAt m pa pb (l.take k) c∧loadAt m pa pb (l.take k) c≤5*k:=by
  intro k
  induction k with
  | zero=>intro _;simp[loadAt]
  | succ k ih=>
    intro hk
    have h1:=ih (by omega)
    have h2:=addsTo_range (m:=m) (pa:=pa) (pb:=pb) (all_get h k (by omega)) c
    rw[loadAt_take m pa pb l k (by omega) c]
    omega
theorem loadAt_range' {m:Mesh} {pa pb:List Int} {l:List Packet} (h:l.all (packetOk m.g)=true) (c:Int):0≤loadAt m pa pb l c∧loadAt m pa pb l c≤5*l.length:=by
  have:=loadAt_range (pa:=pa) (pb:=pb) h c l.length (Nat.le_refl _)
  rwa [List.take_length] at this
theorem chans_le (m:Mesh):chans m≤64:=by
  have:=count_le m.g
  unfold chans
  omega
theorem loadsL_of {m:Mesh} {pa pb:List Int} {l:List Packet} {x:List Int} (hl:x.length=chans m) (h:∀ j:Nat,j<chans m→ri x j=loadAt m pa pb l j):x=loadsL m pa pb l:=
  same_get (by rw[hl,loadsL_len]) (fun j hj=>by rw[loadsL_len] at hj;rw[h j hj,loadsL_get _ _ _ _ _ hj])
theorem ri_replicate (n j:Nat) (h:j<n):ri (List.replicate n 0) j=0:=by
  rw[ri_get _ j (by simpa using h)]
  simp
theorem take_next (w:List Int) (i:Nat) (hi:i<w.length):w.take (i+1)=w.take i++[ri w i]:=by
  rw[ri_get w i hi,List.take_succ_eq_append_getElem hi]
def sumTo (l:List Int) (k:Nat):Int:=(l.take k).foldl (·+·) 0
theorem sumTo_succ (l:List Int) (k:Nat) (hk:k<l.length):sumTo l (k+1)=sumTo l k+ri l k:=by
  unfold sumTo
  rw[take_next l k hk,List.foldl_append]
  rfl
theorem sumTo_range {l:List Int} {N:Int} (h0:0≤N) (h:∀ j:Nat,j<l.length→0≤ri l j∧ri l j≤N):∀ k,k≤l.length→0≤sumTo l k∧sumTo l k≤N*k:=by
  intro k
  induction k with
  | zero=>intro _;simp[sumTo]
  | succ k ih=>
    intro hk
    have h1:=ih (by omega)
    have h2:=h k (by omega)
    rw[sumTo_succ l k (by omega)]
    have:N*((k+1:Nat):Int)=N*k+N:=by push_cast;rw[Int.mul_add,Int.mul_one]
    omega
def totalHops (m:Mesh) (pa pb:List Int) (l:List Packet):Int:=if arePk m pa pb l then sumTo (loadsL m pa pb l) (chans m) else -1
theorem arePk_parts {m:Mesh} {pa pb:List Int} {l:List Packet} (h:arePk m pa pb l=true):classesOk m pa pb=true∧l.all (packetOk m.g)=true:=by
  unfold arePk at h
  rwa [Bool.and_eq_true] at h
theorem sized_count {m:Mesh} {t:List Int} (h:sized m t=true):0<nodeCount m.g:=by
  have h1:=(sized_iff.1 h).1
  unfold meshOk at h1
  rw[Bool.and_eq_true] at h1
  have hg:=h1.1
  unfold nodeCount
  rw[if_pos hg]
  simp only[gridOk,inside,Bool.and_eq_true,decide_eq_true_eq] at hg
  obtain⟨⟨a,b⟩,c,d⟩:=hg
  have:=Int.mul_le_mul a c (by omega) (by omega)
  omega
theorem arePk_count {m:Mesh} {pa pb:List Int} {l:List Packet} (h:arePk m pa pb l=true):0<nodeCount m.g:=sized_count (classesOk_sized (arePk_parts h).1).1
def loadsOf (m:Mesh) (pa pb:List Int) (l:List Packet):List Int:=if arePk m pa pb l then loadsL m pa pb l else []
theorem loadsOf_yes {m:Mesh} {pa pb:List Int} {l:List Packet} (h:arePk m pa pb l=true):loadsOf m pa pb l=loadsL m pa pb l:=by rw[loadsOf,if_pos h]
theorem loadsOf_no {m:Mesh} {pa pb:List Int} {l:List Packet} (h:arePk m pa pb l=false):loadsOf m pa pb l=[]:=by rw[loadsOf,h];rfl
theorem loadsOf_len (m:Mesh) (pa pb:List Int) (l:List Packet):(loadsOf m pa pb l).length≤64:=by
  cases h:arePk m pa pb l
  · rw[loadsOf_no h];simp
  · rw[loadsOf_yes h,loadsL_len];exact chans_le m
theorem loadsL_range {m:Mesh} {pa pb:List Int} {l:List Packet} (h:l.all (packetOk m.g)=true) (hl:l.length≤2097152) (j:Nat) (hj:j<(loadsL m pa pb l).length):0≤ri (loadsL m pa pb l) j∧ri (loadsL m pa pb l) j≤10485760:=by
  rw[loadsL_len] at hj
  rw[loadsL_get _ _ _ _ _ hj]
  have:=loadAt_range' (pa:=pa) (pb:=pb) h j
  omega
theorem loadsOf_range (m:Mesh) (pa pb:List Int) (l:List Packet) (hl:l.length≤2097152):∀ j:Nat,j<(loadsOf m pa pb l).length→0≤ri (loadsOf m pa pb l) j∧ri (loadsOf m pa pb l) j≤10485760:=by
  intro j hj
  cases h:arePk m pa pb l
  · rw[loadsOf_no h] at hj;simp at hj
  · rw[loadsOf_yes h] at hj ⊢
    exact loadsL_range (arePk_parts h).2 hl j hj
theorem sum_loads {m:Mesh} {pa pb:List Int} {l:List Packet} (hl:l.length≤2097152) (k:Nat) (hk:k≤(loadsOf m pa pb l).length):0≤sumTo (loadsOf m pa pb l) k∧sumTo (loadsOf m pa pb l) k≤10485760*k:=
  sumTo_range (by omega) (loadsOf_range m pa pb l hl) k hk
theorem totalHops_yes {m:Mesh} {pa pb:List Int} {l:List Packet} (h:arePk m pa pb l=true):totalHops m pa pb l=sumTo (loadsOf m pa pb l) (loadsOf m pa pb l).length:=by
  rw[totalHops,if_pos h,loadsOf_yes h,loadsL_len]
theorem totalHops_no {m:Mesh} {pa pb:List Int} {l:List Packet} (h:arePk m pa pb l=false):totalHops m pa pb l=-1:=by
  rw[totalHops,h];rfl
def flitOk (g:Grid) (f:Flit):Bool:=isNode g f.dst && inside f.cls 0 1
def areFl (g:Grid) (l:List Flit):Bool:=l.all (flitOk g)
def clsOnly (l:List Flit) (c:Int):List Flit:=l.filter (fun f=>f.cls == c)
def bufOk (g:Grid) (i:Nat) (l:List Flit):Bool:=decide (l.length≤3) && l.all (fun f=>f.cls == ((i % 2:Nat):Int)) && areFl g l
def srcOk (g:Grid) (l:List Flit):Bool:=decide (l.length≤60) && areFl g l
def shapeOk (n:Net):Bool:=
  decide ((n.bufs.length:Int)=10*nodeCount n.mesh.g) && decide ((n.owners.length:Int)=10*nodeCount n.mesh.g) && decide ((n.turns.length:Int)=5*nodeCount n.mesh.g) && decide ((n.srcs.length:Int)=nodeCount n.mesh.g) && decide ((n.arrs.length:Int)=nodeCount n.mesh.g)
def netOk (n:Net):Bool:=
  classesOk n.mesh n.pa n.pb && shapeOk n && allI n.bufs.length (fun i=>bufOk n.mesh.g i (rl n.bufs i)) && allI n.srcs.length (fun i=>srcOk n.mesh.g (rl n.srcs i)) && allI n.owners.length (fun i=>inside (ri n.owners i) (-1) 4) && allI n.turns.length (fun i=>inside (ri n.turns i) 0 9) && inside n.time 0 1000000
theorem rf_get (l:List Flit) (k:Nat) (h:k<l.length):rf l (k:Int)=l[k]:=by
  simp[rf,List.getD_eq_getElem?_getD,h]
theorem areFl_no {g:Grid} {l:List Flit} (k:Nat) (hk:k<l.length) (h:flitOk g (rf l k)=false):areFl g l=false:=by
  rw[rf_get l k hk] at h
  unfold areFl
  rw[Bool.eq_false_iff]
  intro ha
  rw[List.all_eq_true] at ha
  rw[ha _ (List.getElem_mem hk)] at h
  cases h
theorem areFl_yes {g:Grid} {l:List Flit} (h:∀ k:Nat,k<l.length→flitOk g (rf l k)=true):areFl g l=true:=by
  unfold areFl
  rw[List.all_eq_true]
  intro p hp
  obtain⟨k,hk,rfl⟩:=List.getElem_of_mem hp
  have:=h k hk
  rwa [rf_get l k hk] at this
theorem clsOnly_len (l:List Flit) (c:Int):((clsOnly l c).length == l.length)=l.all (fun f=>f.cls == c):=by
  rw[Bool.eq_iff_iff,beq_iff_eq,List.all_eq_true]
  unfold clsOnly
  rw[List.length_filter_eq_length_iff]
theorem clsOnly_take {l:List Flit} {c:Int} (k:Nat) (hk:k<l.length):clsOnly (l.take (k+1)) c=if (rf l k).cls == c then clsOnly (l.take k) c++[rf l k] else clsOnly (l.take k) c:=by
  rw[rf_get l k hk,List.take_succ_eq_append_getElem hk]
  unfold clsOnly
  rw[List.filter_append]
  split <;> simp_all
theorem netOk_parts {n:Net} (h:netOk n=true):classesOk n.mesh n.pa n.pb=true∧(n.bufs.length:Int)=10*nodeCount n.mesh.g∧(n.owners.length:Int)=10*nodeCount n.mesh.g∧(n.turns.length:Int)=5*nodeCount n.mesh.g∧(n.srcs.length:Int)=nodeCount n.mesh.g∧(n.arrs.length:Int)=nodeCount n.mesh.g∧(∀ i,i<n.bufs.length→bufOk n.mesh.g i (rl n.bufs i)=true)∧(∀ i,i<n.srcs.length→srcOk n.mesh.g (rl n.srcs i)=true)∧(∀ i:Nat,i<n.owners.length→inside (ri n.owners i) (-1) 4=true)∧(∀ i:Nat,i<n.turns.length→inside (ri n.turns i) 0 9=true)∧inside n.time 0 1000000=true:=by
  simp only[netOk,shapeOk,Bool.and_eq_true,decide_eq_true_eq,allI_iff] at h
  obtain⟨⟨⟨⟨⟨⟨h1,⟨⟨⟨⟨s1,s2⟩,s3⟩,s4⟩,s5⟩⟩,h2⟩,h3⟩,h4⟩,h5⟩,h6⟩:=h
  exact⟨h1,s1,s2,s3,s4,s5,h2,h3,h4,h5,h6⟩
def bufOf (n:Net) (a i:Int):List Flit:=rl n.bufs (10*a+i)
def ownAt (n:Net) (a p c:Int):Int:=ri n.owners (10*a+2*p+c)
def ownPort (n:Net) (a i:Int):Int:=
  if ownAt n a 0 (i % 2)=i / 2 then 0 else if ownAt n a 1 (i % 2)=i / 2 then 1 else if ownAt n a 2 (i % 2)=i / 2 then 2 else if ownAt n a 3 (i % 2)=i / 2 then 3 else if ownAt n a 4 (i % 2)=i / 2 then 4 else -1
def wantedN (n:Net) (a i:Int):Int:=
  if (bufOf n a i).length=0 then -1 else if (rf (bufOf n a i) 0).head=true then entry n.mesh (tabOf n.pa n.pb (i % 2)) a (rf (bufOf n a i) 0).dst else ownPort n a i
def behindI (n:Net) (a p c:Int):Int:=10*nextNode n.mesh.g a p+2*opposite p+c
def behindN (n:Net) (a p c:Int):Int:=if p=4 then -1 else if live n.mesh (4*a+p)=true then behindI n a p c else -1
def roomN (n:Net) (a p c:Int):Bool:=if p=4 then true else live n.mesh (4*a+p) && decide ((rl n.bufs (behindI n a p c)).length<3)
def requestN (n:Net) (a i p:Int):Bool:=
  (wantedN n a i == p) && roomN n a p (i % 2) && (if (rf (bufOf n a i) 0).head=true then ownAt n a p (i % 2) == -1 else ownAt n a p (i % 2) == i / 2)
structure At (n:Net) (a i:Int):Prop where
  ok:netOk n=true
  nd:isNode n.mesh.g a=true
  i0:0≤i
  i9:i≤9
theorem ok_classes {n:Net} (h:netOk n=true):classesOk n.mesh n.pa n.pb=true:=(netOk_parts h).1
theorem ok_mesh {n:Net} (h:netOk n=true):meshOk n.mesh=true:=(sized_iff.1 (classesOk_sized (ok_classes h)).1).1
theorem ok_tab {n:Net} (h:netOk n=true) (c:Int):tableOk n.mesh (tabOf n.pa n.pb c)=true:=by
  have:=ok_classes h
  simp only[classesOk,Bool.and_eq_true] at this
  unfold tabOf
  split
  · exact this.2
  · exact this.1
theorem walkF_first {m:Mesh} {t:List Int} {b a:Int} {k:Nat} (h:walkF m t b (k+1) a []≠[]):¬ entry m t a b=4→inside (entry m t a b) 0 3=true:=by
  intro h4
  unfold walkF at h
  rw[if_neg h4] at h
  cases hi:inside (entry m t a b) 0 3
  · simp[hi] at h
  · rfl
theorem entry_in {m:Mesh} {t:List Int} {a b:Int} (h:tableOk m t=true) (ha:isNode m.g a=true) (hb:isNode m.g b=true):sized m t=true∧inside (entry m t a b) 0 4=true:=by
  simp only[tableOk,Bool.and_eq_true] at h
  refine⟨h.1,?_⟩
  have ha':=isNode_iff.1 ha
  have hb':=isNode_iff.1 hb
  have h2:=allI_iff.1 (allI_iff.1 h.2 a.toNat (by omega)) b.toNat (by omega)
  rw[Int.toNat_of_nonneg ha'.1,Int.toNat_of_nonneg hb'.1] at h2
  by_cases e:a=b
  · subst e
    rw[if_pos rfl] at h2
    rw[beq_iff_eq] at h2
    rw[h2]
    rfl
  · rw[if_neg (by omega),decide_eq_true_eq] at h2
    by_cases h4:entry m t a b=4
    · rw[h4];rfl
    · have h5:=walkF_first (m:=m) (t:=t) (a:=a) (b:=b) (k:=(nodeCount m.g).toNat) (fun e=>by unfold walk at h2;rw[e] at h2;simp at h2) h4
      rw[inside_iff] at h5 ⊢
      omega
theorem portAt_entry {m:Mesh} {t:List Int} {a b:Int} (h:tableOk m t=true) (ha:isNode m.g a=true) (hb:isNode m.g b=true):portAt m t a b=entry m t a b:=by
  obtain⟨h1,h2⟩:=entry_in h ha hb
  rw[portAt_eq h1 ha hb,if_pos h2]
theorem At.idx {n:Net} {a i:Int} (h:At n a i):0≤a∧a≤15∧0≤10*a+i∧10*a+i<(n.bufs.length:Int)∧10*a+10≤(n.owners.length:Int)∧5*a+5≤(n.turns.length:Int)∧a<(n.srcs.length:Int)∧a<(n.arrs.length:Int):=by
  obtain⟨_,h1,h2,h3,h4,h5,_⟩:=netOk_parts h.ok
  have:=isNode_iff.1 h.nd
  have:=count_le n.mesh.g
  have:=h.i0
  have:=h.i9
  omega
theorem areFl_get {g:Grid} {l:List Flit} (h:areFl g l=true) (k:Nat) (hk:k<l.length):isNode g (rf l k).dst=true∧inside (rf l k).cls 0 1=true:=by
  unfold areFl at h
  rw[List.all_eq_true] at h
  have:=h _ (List.getElem_mem hk)
  rw[rf_get l k hk]
  simpa [flitOk] using this
theorem At.buf {n:Net} {a i:Int} (h:At n a i):(bufOf n a i).length≤3∧∀ k:Nat,k<(bufOf n a i).length→isNode n.mesh.g (rf (bufOf n a i) k).dst=true∧(rf (bufOf n a i) k).cls=i % 2:=by
  obtain⟨_,h1,h2,h3,h4,h5,hb,_⟩:=netOk_parts h.ok
  obtain⟨_,_,x0,x1,_⟩:=h.idx
  have hk:=hb (10*a+i).toNat (by omega)
  rw[Int.toNat_of_nonneg x0] at hk
  simp only[bufOk,Bool.and_eq_true,decide_eq_true_eq] at hk
  refine⟨hk.1.1,fun k hlt=>⟨(areFl_get hk.2 k hlt).1,?_⟩⟩
  have:=List.all_eq_true.1 hk.1.2 _ (List.getElem_mem hlt)
  rw[rf_get _ k hlt]
  rw[beq_iff_eq] at this
  rw[this]
  omega
theorem At.buf0 {n:Net} {a i:Int} (h:At n a i) (h0:0<(bufOf n a i).length):isNode n.mesh.g (rf (bufOf n a i) 0).dst=true∧(rf (bufOf n a i) 0).cls=i % 2:=h.buf.2 0 h0
theorem ownPort_yes {n:Net} {a i:Int} (k:Nat) (hk:k<5) (h:ownAt n a k (i % 2)=i / 2) (hb:∀ j:Nat,j<k→¬ ownAt n a j (i % 2)=i / 2):ownPort n a i=k:=by
  have q0:0<k→¬ ownAt n a 0 (i % 2)=i / 2:=hb 0
  have q1:1<k→¬ ownAt n a 1 (i % 2)=i / 2:=hb 1
  have q2:2<k→¬ ownAt n a 2 (i % 2)=i / 2:=hb 2
  have q3:3<k→¬ ownAt n a 3 (i % 2)=i / 2:=hb 3
  unfold ownPort
  rcases (by omega:k=0∨k=1∨k=2∨k=3∨k=4) with rfl|rfl|rfl|rfl|rfl
  · rw[if_pos (show ownAt n a 0 (i % 2)=i / 2 from h)];rfl
  · rw[if_neg (q0 (by omega)),if_pos (show ownAt n a 1 (i % 2)=i / 2 from h)];rfl
  · rw[if_neg (q0 (by omega)),if_neg (q1 (by omega)),if_pos (show ownAt n a 2 (i % 2)=i / 2 from h)];rfl
  · rw[if_neg (q0 (by omega)),if_neg (q1 (by omega)),if_neg (q2 (by omega)),if_pos (show ownAt n a 3 (i % 2)=i / 2 from h)];rfl
  · rw[if_neg (q0 (by omega)),if_neg (q1 (by omega)),if_neg (q2 (by omega)),if_neg (q3 (by omega)),if_pos (show ownAt n a 4 (i % 2)=i / 2 from h)];rfl
theorem ownPort_no {n:Net} {a i:Int} (hb:∀ j:Nat,j<5→¬ ownAt n a j (i % 2)=i / 2):ownPort n a i=-1:=by
  have q0:¬ ownAt n a 0 (i % 2)=i / 2:=hb 0 (by omega)
  have q1:¬ ownAt n a 1 (i % 2)=i / 2:=hb 1 (by omega)
  have q2:¬ ownAt n a 2 (i % 2)=i / 2:=hb 2 (by omega)
  have q3:¬ ownAt n a 3 (i % 2)=i / 2:=hb 3 (by omega)
  have q4:¬ ownAt n a 4 (i % 2)=i / 2:=hb 4 (by omega)
  unfold ownPort
  rw[if_neg q0,if_neg q1,if_neg q2,if_neg q3,if_neg q4]
theorem ownPort_range (n:Net) (a i:Int):-1≤ownPort n a i∧ownPort n a i≤4:=by
  unfold ownPort
  split
  · omega
  · split
    · omega
    · split
      · omega
      · split
        · omega
        · split <;> omega
theorem wanted_1 {n:Net} {a i:Int} (h:(bufOf n a i).length=0):wantedN n a i=-1:=by rw[wantedN,if_pos h]
theorem wanted_2 {n:Net} {a i:Int} (h:0<(bufOf n a i).length) (hh:(rf (bufOf n a i) 0).head=true):wantedN n a i=entry n.mesh (tabOf n.pa n.pb (i % 2)) a (rf (bufOf n a i) 0).dst:=by rw[wantedN,if_neg (by omega),if_pos hh]
theorem wanted_3 {n:Net} {a i:Int} (h:0<(bufOf n a i).length) (hh:(rf (bufOf n a i) 0).head=false):wantedN n a i=ownPort n a i:=by rw[wantedN,if_neg (by omega),if_neg (by simp[hh])]
theorem At.wanted {n:Net} {a i:Int} (h:At n a i):-1≤wantedN n a i∧wantedN n a i≤4:=by
  by_cases h0:(bufOf n a i).length=0
  · rw[wanted_1 h0];omega
  · cases hh:(rf (bufOf n a i) 0).head
    · rw[wanted_3 (by omega) hh];exact ownPort_range n a i
    · rw[wanted_2 (by omega) hh]
      have:=(entry_in (ok_tab h.ok (i % 2)) h.nd (h.buf0 (by omega)).1).2
      rw[inside_iff] at this
      exact⟨by have:=this.1;omega,this.2⟩
theorem wanted_len {n:Net} {a i:Int} (h:0≤wantedN n a i):0<(bufOf n a i).length:=by
  rcases Nat.eq_zero_or_pos (bufOf n a i).length with h0|h0
  · rw[wanted_1 h0] at h;omega
  · exact h0
theorem opp_eq {p:Int} (h0:0≤p) (h3:p≤3):opposite p=(p+2) % 4:=by
  unfold opposite
  rw[if_neg (by omega),if_pos (inside_iff.2 ⟨h0,h3⟩)]
theorem behind_idx {n:Net} {a p c:Int} (ok:netOk n=true) (h0:0≤p) (h3:p≤3) (hl:live n.mesh (4*a+p)=true) (c0:0≤c) (c1:c≤1) :
    isNode n.mesh.g (nextNode n.mesh.g a p)=true∧0≤nextNode n.mesh.g a p∧nextNode n.mesh.g a p≤15∧0≤opposite p∧opposite p≤3∧0≤behindI n a p c∧behindI n a p c<(n.bufs.length:Int):=by
  have h1:=next_live h0 h3 (ok_mesh ok) hl
  obtain⟨_,e1,_⟩:=netOk_parts ok
  have h2:=isNode_iff.1 h1
  have:=count_le n.mesh.g
  have:=opp_eq h0 h3
  unfold behindI
  refine⟨h1,by omega,by omega,by omega,by omega,by omega,by omega⟩
theorem request_no1 {n:Net} {a i p:Int} (h:¬ wantedN n a i=p):requestN n a i p=false:=by simp[requestN,h]
theorem request_no2 {n:Net} {a i p:Int} (h:roomN n a p (i % 2)=false):requestN n a i p=false:=by simp[requestN,h]
theorem request_1 {n:Net} {a i p:Int} (h:wantedN n a i=p) (h2:roomN n a p (i % 2)=true) (hh:(rf (bufOf n a i) 0).head=true):requestN n a i p=(ownAt n a p (i % 2) == -1):=by simp[requestN,h,h2,hh]
theorem request_2 {n:Net} {a i p:Int} (h:wantedN n a i=p) (h2:roomN n a p (i % 2)=true) (hh:(rf (bufOf n a i) 0).head=false):requestN n a i p=(ownAt n a p (i % 2) == i / 2):=by simp[requestN,h,h2,hh]
theorem room_no {n:Net} {a p c:Int} (h4:p≤3) (h:live n.mesh (4*a+p)=false):roomN n a p c=false:=by rw[roomN,if_neg (by omega),h];rfl
theorem room_yes {n:Net} {a p c:Int} (h4:p≤3) (h:live n.mesh (4*a+p)=true):roomN n a p c=decide ((rl n.bufs (behindI n a p c)).length<3):=by rw[roomN,if_neg (by omega),h];rfl
def reqI (n:Net) (a i p:Int):Bool:=inside p 0 4 && requestN n a i p
theorem reqI_in {n:Net} {a i p:Int} (h0:0≤p) (h4:p≤4):reqI n a i p=requestN n a i p:=by simp[reqI,inside,h0,h4]
theorem reqI_neg {n:Net} {a i p:Int} (h0:p<0):reqI n a i p=false:=by
  have:inside p 0 4=false:=by simp[inside];omega
  simp[reqI,this]
theorem reqI_no {n:Net} {a i p:Int} (h:requestN n a i p=false):reqI n a i p=false:=by simp[reqI,h]
def requestsTo (n:Net) (a p:Int) (k:Nat):List Int:=((List.range k).filter (fun (i:Nat)=>reqI n a i p)).map (fun (i:Nat)=>(i:Int))
def requestsN (n:Net) (a p:Int):List Int:=requestsTo n a p 10
theorem requestsTo_yes {n:Net} {a p:Int} {k:Nat} (h:reqI n a k p=true):requestsTo n a p (k+1)=requestsTo n a p k++[(k:Int)]:=by
  simp[requestsTo,List.range_succ,List.filter_append,h]
theorem requestsTo_no {n:Net} {a p:Int} {k:Nat} (h:reqI n a k p=false):requestsTo n a p (k+1)=requestsTo n a p k:=by
  simp[requestsTo,List.range_succ,List.filter_append,h]
theorem requestsTo_len (n:Net) (a p:Int) (k:Nat):(requestsTo n a p k).length≤k:=by
  unfold requestsTo
  rw[List.length_map]
  exact Nat.le_trans (List.length_filter_le _ _) (by simp)
def stdCol (x t:Int):Int:=if t<x then 3 else 1
def stdRow (y t:Int):Int:=if t<y then 0 else 2
def stdRule (rule b:Int):Int:=if rule=4 then 1+b % 2 else rule
def stdFirst (g:Grid) (r a b:Int):Bool:=if r=2 then decide (a / g.w=b / g.w) else if r=3 then decide (b % g.w<a % g.w) || decide (a / g.w=b / g.w) else !decide (a % g.w=b % g.w)
def stdPort (g:Grid) (rule a b:Int):Int:=
  if a=b then 4 else if stdFirst g (stdRule rule b) a b=true then stdCol (a % g.w) (b % g.w) else stdRow (a / g.w) (b / g.w)
def makeTo (g:Grid) (rule:Int) (k:Nat):List Int:=(List.range k).map (fun (i:Nat)=>stdPort g rule ((i / (nodeCount g).toNat:Nat):Int) ((i % (nodeCount g).toNat:Nat):Int))
def makeT (g:Grid) (rule:Int):List Int:=makeTo g rule ((nodeCount g).toNat*(nodeCount g).toNat)
set_option maxRecDepth 100000 in
theorem make_ok {w h r:Int} (w1:1≤w) (w4:w≤4) (h1:1≤h) (h4:h≤4) (r1:1≤r) (r4:r≤4):tableOk ⟨⟨w,h⟩,[]⟩ (makeT ⟨w,h⟩ r)=true:=by
  have hw:w=1∨w=2∨w=3∨w=4:=by omega
  have hh:h=1∨h=2∨h=3∨h=4:=by omega
  have hr:r=1∨r=2∨r=3∨r=4:=by omega
  rcases hw with rfl|rfl|rfl|rfl <;> rcases hh with rfl|rfl|rfl|rfl <;> rcases hr with rfl|rfl|rfl|rfl <;> exact of_decide_eq_true (by kernel_rfl)
end NoC
