/- Lemmas for laws of this seat, for all inputs: Own LawI Box Flat LawP Mark NetB Fl NetL OB NX CpW. -/
import Derived.Test.YtodbglncccgdbaaGreatQ2
import Derived.Test.YtodbglncccgdbaaGreatProg
import Derived.Test.YtodbglncccgdbaaGreatQ1
import Derived.ArgAppend
import Derived.Deep.Upon
set_option linter.unusedVariables false
set_option linter.unusedSimpArgs false
namespace Go.Proofs.YtodbglncccgdbaaGreat
open Go.RowKit Go.Proofs.YtodbglncccgdbaaGreatW.PrintWords
theorem info_int:(Tryz.prog.info? 3).map (fun i=>(i.zero,i.size,i.bytes))=some (some (.int .i64 0),1,8):=by kernel_rfl

theorem R_empty {α:Type} (d:Kd α) (e:Nat) {W0 W:World} (hb:W0.heap.size≤W.heap.size):d.R e (W.alloc (.cells #[] e)) W0.heap.size (fun _=>True) (.slice (some ⟨W.heap.size,0,none⟩) 0 0) []:=by
  refine⟨fun _ _=>trivial,[],?_,Reps.none _ _⟩
  have h2:=World.ownsRow_lit (base:=W0.heap.size) (e:=e) (size:=d.sz) W #[] 0 hb (by simp) (by simp)
  simpa using h2
theorem R_empty' {α:Type} (d:Kd α) (e:Nat) {W0 W:World} (hb:W0.heap.size≤W.heap.size) (n:Nat) (hn:n=W.heap.size):d.R e (W.alloc (.cells #[] e)) W0.heap.size (fun _=>True) (.slice (some ⟨n,0,none⟩) 0 0) []:=by
  subst hn
  exact R_empty d e hb
theorem R_nil' {α:Type} (d:Kd α) (e:Nat) (W0 W:World):d.R e W W0.heap.size (fun _=>True) (.slice none 0 0) []:=Kd.R_nil d e W _ _
section
variable {P:Program} {ops:Array Oper} {rest:List Oper} {o:Oper} {a:Act} {Q:Exit→Act→World→Prop} {α:Type}
theorem app_own (d:Kd α) {W0 W:World} (hgd:o.guard=none) (s x:Operand) (t e:TypeId) (z:Value) (bytes:Nat)
    (ho:o.op=.call { callee:=.builtin .append,args:=#[s,x],argTypes:=#[t,t] })
    (ht:P.underlying t=some (.slice e)) (hinfo:(P.info? e).map (fun i=>(i.zero,i.size,i.bytes))=some (some z,d.sz,bytes)) (hz:z.cells.size=d.sz) (hs0:0<d.sz) (hb0:0<bytes)
    (v:Value) (xs:List α) (p:α) (cs:List Value) (hs:a.eval s=v) (hx:a.eval x=.slice (some ⟨W.heap.size,0,none⟩) 1 1) (hp:d.M W W0.heap.size (fun _=>False) p cs)
    (HO:d.R e W W0.heap.size (fun _=>True) v xs) (HB:Below W0.heap.size W0 W) (hl:(xs.length+1)*bytes≤140737488355328)
    (h:∀ v1 w1,d.R e w1 W0.heap.size (fun _=>True) v1 (xs++[p])→Below W0.heap.size W0 w1→wpList P ops Q rest (a.put o.dst v1) w1) :
    wpList P ops Q (o::rest) a (W.alloc (.cells cs.toArray e)):=
  Kd.R_append d W0.heap.size hgd s x t e z bytes ho ht hinfo hz hs0 hb0 v xs p cs (fun _=>True) (fun _=>False) hs hx hp (fun _ hk=>hk.elim) (fun _ _=>trivial) HO HB HB.size hl (fun v1 w1 h1 h2 _ _=>h v1 w1 h1 h2)
theorem app_int {W0 W:World} (hgd:o.guard=none) (s x:Operand) (t e:TypeId)
    (ho:o.op=.call { callee:=.builtin .append,args:=#[s,x],argTypes:=#[t,t] })
    (ht:P.underlying t=some (.slice e)) (hinfo:(P.info? e).map (fun i=>(i.zero,i.size,i.bytes))=some (some (.int .i64 0),1,8))
    (v:Value) (xs:List Int) (y:Int) (hs:a.eval s=v) (hx:a.eval x=.slice (some ⟨W.heap.size,0,none⟩) 1 1)
    (HO:Kd.R (Kd.int .i64) e W W0.heap.size (fun _=>True) v xs) (HB:Below W0.heap.size W0 W) (hl:xs.length≤1000000000)
    (h:∀ v1 w1,Kd.R (Kd.int .i64) e w1 W0.heap.size (fun _=>True) v1 (xs++[y])→Below W0.heap.size W0 w1→wpList P ops Q rest (a.put o.dst v1) w1) :
    wpList P ops Q (o::rest) a (W.alloc (.cells #[.int .i64 y] e)):=
  app_own (Kd.int .i64) hgd s x t e (.int .i64 0) 8 ho ht hinfo rfl (by decide) (by omega) v xs y [.int .i64 y] hs hx rfl HO HB (by omega) h
theorem make_int {W0 W:World} (hgd:o.guard=none) {N:Tmp} (hd:o.dst=some N) (t e:TypeId) (x y:Operand) (ho:o.op=.makeSlice t x y) (n:Nat) (hx:a.eval x=.int .i64 n) (hy:a.eval y=.int .i64 n)
    (ht:P.underlying t=some (.slice e)) (hinfo:(P.info? e).map (fun i=>(i.zero,i.size,i.bytes))=some (some (.int .i64 0),1,8)) (hl:n≤1000000000) (HB:Below W0.heap.size W0 W)
    (h:∀ v1 w1,Kd.R (Kd.int .i64) e w1 W0.heap.size (fun _=>True) v1 (List.replicate n 0)→Below W0.heap.size W0 w1→wpList P ops Q rest (a.put o.dst v1) w1):wpList P ops Q (o::rest) a W:=
  Kd.R_make (Kd.int .i64) (w0:=W0) W0.heap.size e hgd hd t x y ho (n:Int) hx hy ht (.int .i64 0) 8 hinfo rfl (by decide) (by omega) 0 (ok:=fun _=>True) (okp:=fun _=>True) rfl (fun _ hk=>hk) trivial (by omega) (by simp;omega) HB HB.size
    (fun v1 w1 h1 h2 _ _=>h v1 w1 (by simpa using h1) h2)
end
section
variable {e base g n cap:Nat} {ok:Nat→Prop} {W:World} {xs:List Int}
theorem rowI_cell (h:Kd.R (Kd.int .i64) e W base ok (.slice (some ⟨g,0,none⟩) n cap) xs) (k:Nat) (hk:k<n):W.cell? ⟨g,k,none⟩=some (.int .i64 (NoC.ri xs k))∧W.frozen? ⟨g,k,none⟩=false:=by
  have h2:=Kd.R_celln 0 h (k:Int) (by omega) (by omega)
  rw[Int.toNat_natCast] at h2
  exact h2
theorem rowI_set (h:Kd.R (Kd.int .i64) e W base ok (.slice (some ⟨g,0,none⟩) n cap) xs) (k:Nat) (v:Int):Kd.R (Kd.int .i64) e (W.setCell ⟨g,k,none⟩ (.int .i64 v)) base ok (.slice (some ⟨g,0,none⟩) n cap) (xs.set k v):=by
  have h2:=(Kd.R_putg h (k:Int) v).1
  rw[Int.toNat_natCast] at h2
  exact h2
end
theorem R_off {α:Type} {d:Kd α} {e base:Nat} {w:World} {v:Value} {xs:List α} {g:Nat} (h:d.R e w base (fun _=>True) v xs) (hg:g<base) (j:Nat) (u:Value):d.R e (w.setCell ⟨g,j,none⟩ u) base (fun _=>True) v xs:=
  Kd.R_mono (Kd.R_far (p:=⟨g,j,none⟩) (Kd.R_bound h) (fun k hk=>by have:=hk.2.1;show k≠g;omega) u) (fun _ _=>trivial)
theorem R_belowC {α:Type} {d:Kd α} {e base:Nat} {w w1:World} {v:Value} {xs:List α} (hb:Below w.heap.size w w1) (h:d.R e w base (fun _=>True) v xs):d.R e w1 base (fun _=>True) v xs:=Kd.R_below h hb
theorem R_apart {α β:Type} {d:Kd α} {d':Kd β} {e e' b1 b2:Nat} {w1 w2:World} {va vb:Value} {xs:List α} {ys:List β} (hA:d.R e w1 b1 (fun _=>True) va xs) (hB:d'.R e' w2 b2 (fun _=>True) vb ys) (hle:w1.heap.size≤b2):va.ownBlock=none∨va.ownBlock≠vb.ownBlock:=by
  have ha:=(Kd.R_bound hA).1
  have hb:=(Kd.R_bound hB).1
  cases h:va.ownBlock with
  | none=>exact Or.inl rfl
  | some k=>
    right
    intro e
    have h1:=(ha k h).2.2.1
    have h2:=(hb k e.symm).2.1
    omega
def GotMesh (w w':World) (m:NoC.Mesh) (e:Ending):Prop:=∃ v,e=.returned (.agg #[.int .i64 m.g.w,.int .i64 m.g.h,v])∧Kd.R (Kd.int .i64) 3 w' w.heap.size (fun _=>True) v m.br
def GotTab (w w':World) (t:List Int) (e:Ending):Prop:=∃ v,e=.returned (.agg #[v])∧Kd.R (Kd.int .i64) 3 w' w.heap.size (fun _=>True) v t
def GotCls (w w':World) (pa pb:List Int) (e:Ending):Prop:=∃ va vb,e=.returned (.agg #[va,vb])∧Kd.R (Kd.int .i64) 3 w' w.heap.size (fun _=>True) va pa∧Kd.R (Kd.int .i64) 3 w' w.heap.size (fun _=>True) vb pb∧(va.ownBlock=none∨va.ownBlock≠vb.ownBlock)
def GotI (w w':World) (xs:List Int) (e:Ending):Prop:=∃ v,e=.returned v∧Kd.R (Kd.int .i64) 3 w' w.heap.size (fun _=>True) v xs
theorem GotI.mk {w W0 w':World} {xs:List Int} {v:Value} (h:Kd.R (Kd.int .i64) 3 w' W0.heap.size (fun _=>True) v xs) (hb:w.heap.size≤W0.heap.size):GotI w w' xs (.returned v):=
  ⟨v,rfl,Kd.R_lower h hb⟩
theorem GotI.nil (w w':World):GotI w w' [] (.returned (.slice none 0 0)):=⟨_,rfl,Kd.R_nil _ _ _ _ _⟩
theorem GotI.read {w w':World} {xs:List Int} {e:Ending} (h:GotI w w' xs e):∃ A c,e=.returned (.slice A xs.length c)∧xs.length≤c∧Kd.C (Kd.int .i64) w' A xs.length xs:=by
  obtain⟨v,rfl,hR⟩:=h
  obtain⟨A,c,rfl,h1,h2⟩:=Kd.R_reads hR
  exact⟨A,c,rfl,h1,h2⟩
end Go.Proofs.YtodbglncccgdbaaGreat
namespace Go.Proofs.YtodbglncccgdbaaGreat
open Go.RowKit Go.Proofs.YtodbglncccgdbaaGreatW.PrintWords
open NoC
end Go.Proofs.YtodbglncccgdbaaGreat
namespace Go.Proofs.YtodbglncccgdbaaGreat
open Go.RowKit Go.Proofs.YtodbglncccgdbaaGreatW.PrintWords
structure Box (w:World) (b:Nat) (cs:Array Value):Prop where
  lt:b<w.heap.size
  get:∀ o,w.cell? ⟨b,o,none⟩=cs[o]?
theorem Box.below {w w1:World} {b:Nat} {cs:Array Value} (h:Box w b cs) (hb:Below w.heap.size w w1):Box w1 b cs:=
  ⟨Nat.lt_of_lt_of_le h.lt hb.size,fun o=>((bcell hb).1 b o h.lt).trans (h.get o)⟩
theorem Box.alloc {w:World} {b:Nat} {cs:Array Value} (h:Box w b cs) (o:Obj):Box (w.alloc o) b cs:=h.below (bw_alloc o (bw_refl w))
theorem Box.new (w:World) (b:Nat) (cs:Array Value) (T:TypeId) (hb:b=w.heap.size):Box (w.alloc (.cells cs T)) b cs:=by
  subst hb
  refine⟨by rw[World.size_alloc];omega,fun o=>?_⟩
  have h:(w.alloc (.cells cs T)).heap[w.heap.size]?=some (.cells cs T):=show (w.heap.push _)[w.heap.size]?=_ from Array.getElem?_push_size
  unfold World.cell?
  rw[h]
  rfl
theorem Kd.R_row {w:World} {base e:Nat} {A:Option Addr} {n c:Nat} {xs:List Int} (h:Kd.R (Kd.int .i64) e w base (fun _=>True) (.slice A n c) xs):n=xs.length∧n≤c∧Kd.C (Kd.int .i64) w A n xs:=by
  obtain⟨A',c',he,h1,h2⟩:=Kd.R_reads h
  injection he with e1 e2 e3
  subst e1 e2 e3
  exact⟨rfl,h1,h2⟩
theorem all11 {w:World} {b:Nat} {c0 c1 c2 c3 c4 c5 c6 c7 c8 c9 c10:Value} (h:Box w b #[c0,c1,c2,c3,c4,c5,c6,c7,c8,c9,c10]):w.cell? ⟨b,0,none⟩=some c0∧w.cell? ⟨b,1,none⟩=some c1∧w.cell? ⟨b,2,none⟩=some c2∧w.cell? ⟨b,3,none⟩=some c3∧w.cell? ⟨b,4,none⟩=some c4∧w.cell? ⟨b,5,none⟩=some c5∧w.cell? ⟨b,6,none⟩=some c6∧w.cell? ⟨b,7,none⟩=some c7∧w.cell? ⟨b,8,none⟩=some c8∧w.cell? ⟨b,9,none⟩=some c9∧w.cell? ⟨b,10,none⟩=some c10:=⟨h.get 0,h.get 1,h.get 2,h.get 3,h.get 4,h.get 5,h.get 6,h.get 7,h.get 8,h.get 9,h.get 10⟩
def Kd.flat {α:Type} (n:Nat) (enc:α→List Value) (hl:∀ x,(enc x).length=n) (h1:∀ x,∀ u∈enc x,u.oneCell'=true):Kd α where
  sz:=n
  E:=[]
  K:=fun _ x cs=>cs=enc x
  M:=fun _ _ _ x cs=>cs=enc x
  K_len:=fun h=>by rw[h];exact hl _
  K_one:=fun h u hu=>by rw[h] at hu;exact h1 _ u hu
  K_below:=fun _ h=>h
  K_of_M:=fun h=>h
  M_mono:=fun _ h=>h
  M_bound:=fun h=>h
  M_move:=fun _ h=>h
  M_lower:=fun _ h=>h
section
variable {α:Type} {n:Nat} {enc:α→List Value} {hl:∀ x,(enc x).length=n} {h1:∀ x,∀ u∈enc x,u.oneCell'=true}
theorem rdF_at (z:α) (hn:0<n) {w:World} {A:Option Addr} {l:List α} (h:(Kd.flat n enc hl h1).C w A l.length l) (k:Nat) (hk:k<l.length) :
    ∃ b off,A=some ⟨b,off,none⟩∧b<w.heap.size∧∀ j,j<l.length→∀ i u,(enc (l.getD j z))[i]?=some u→w.cell? ⟨b,off+(j*n+i),none⟩=some u:=by
  have key:∀ j,j<l.length→∃ ad,A=some ad∧∀ i u,(enc (l.getD j z))[i]?=some u→w.cell? (ad.add (j*n+i))=some u:=by
    intro j hj
    obtain⟨ad,cs,e,_,hK,hc⟩:=Kd.C_get h z (j:Int) (by omega) (by omega)
    have hK':cs=enc (l.getD (j:Int).toNat z):=hK
    subst hK'
    refine⟨ad,e,fun i u hu=>?_⟩
    have:=hc i u hu
    rwa [Int.toNat_natCast] at this
  obtain⟨ad,rfl,h0⟩:=key 0 (by omega)
  have hlt:0<(enc (l.getD 0 z)).length:=by rw[hl];exact hn
  have h00:=h0 0 _ (List.getElem?_eq_getElem hlt)
  rw[Nat.zero_mul] at h00
  have hs:ad.spot=none:=by
    cases hsp:ad.spot with
    | none=>rfl
    | some s=>
      have:ad.add (0+0)=ad:=by simp[Addr.add]
      rw[this] at h00
      unfold World.cell? at h00
      split at h00
      · simp[hsp] at h00
      · simp at h00
  obtain⟨b,off,sp⟩:=ad
  simp only at hs
  subst hs
  refine⟨b,off,rfl,World.block_lt_of_cell? w _ h00,fun j hj i u hu=>?_⟩
  obtain⟨ad,e,h2⟩:=key j hj
  obtain rfl:=Option.some.inj e
  have h3:=h2 i u hu
  rwa [show (⟨b,off,none⟩:Addr).add (j*n+i)=⟨b,off+(j*n+i),none⟩ by unfold Addr.add;split <;> simp_all] at h3
end
def pkCells (p:NoC.Packet):List Value:=[.int .i64 p.id,.int .i64 p.src,.int .i64 p.dst,.int .i64 p.cls,.int .i64 p.len]
def kP:Kd NoC.Packet:=Kd.flat 5 pkCells (fun _=>rfl) (fun x u hu=>by
  simp only[pkCells,List.mem_cons,List.not_mem_nil,or_false] at hu
  rcases hu with rfl|rfl|rfl|rfl|rfl <;> rfl)
theorem rdP_at {w:World} {A:Option Addr} {l:List NoC.Packet} (h:kP.C w A l.length l) (k:Nat) (hk:k<l.length) :
    ∃ b off,A=some ⟨b,off,none⟩∧b<w.heap.size∧w.cell? ⟨b,off+k*5,none⟩=some (.int .i64 (NoC.rp l k).id)∧w.cell? ⟨b,off+k*5+1,none⟩=some (.int .i64 (NoC.rp l k).src)∧w.cell? ⟨b,off+k*5+2,none⟩=some (.int .i64 (NoC.rp l k).dst)∧w.cell? ⟨b,off+k*5+3,none⟩=some (.int .i64 (NoC.rp l k).cls)∧w.cell? ⟨b,off+k*5+4,none⟩=some (.int .i64 (NoC.rp l k).len):=by
  obtain⟨b,off,rfl,hb,hx⟩:=rdF_at (n:=5) NoC.zp (by omega) h k hk
  exact⟨b,off,rfl,hb,hx k hk 0 _ rfl,hx k hk 1 _ rfl,hx k hk 2 _ rfl,hx k hk 3 _ rfl,hx k hk 4 _ rfl⟩
end Go.Proofs.YtodbglncccgdbaaGreat
namespace Go.Proofs.YtodbglncccgdbaaGreat
open Go.RowKit Go.Proofs.YtodbglncccgdbaaGreatW.PrintWords
open NoC
theorem info_P:(Tryz.prog.info? 38).map (fun i=>(i.zero,i.size,i.bytes))=some (some (.agg #[.int .i64 0,.int .i64 0,.int .i64 0,.int .i64 0,.int .i64 0]),5,40):=by kernel_rfl
section
variable {ops:Array Oper} {rest:List Oper} {o:Oper} {a:Act} {Q:Exit→Act→World→Prop}
end

def Within (v:Value) (lo hi:Nat):Prop:=∀ k,v.ownBlock=some k→lo≤k∧k<hi
theorem within_R {α:Type} {d:Kd α} {e base:Nat} {w:World} {v:Value} {xs:List α} (h:d.R e w base (fun _=>True) v xs):Within v base w.heap.size:=fun k hk=>⟨Kd.R_base h k hk,Kd.R_lt h k hk⟩
def Apart (u v:Value):Prop:=u.ownBlock=none∨u.ownBlock≠v.ownBlock
theorem apart_lt {u v:Value} {a b c d:Nat} (hu:Within u a b) (hv:Within v c d) (h:b≤c):Apart u v:=by
  cases e:u.ownBlock with
  | none=>exact .inl e
  | some k=>
    right
    intro e2
    have h1:=hu k e
    have h2:=hv k (by rw[←e2];exact e)
    omega
theorem apart_comm {u v:Value} (h:Apart u v):Apart v u:=by
  rcases h with h|h
  · cases e:v.ownBlock with
    | none=>exact .inl e
    | some k=>right;rw[h,e];simp
  · exact .inr (Ne.symm h)
theorem Box.grown {w w1:World} {b:Nat} {cs:Array Value} {row:Option Nat} (h:Box w b cs) (hg:w.grownBy w1 row) (hne:some b≠row):Box w1 b cs:=by
  refine⟨Nat.lt_of_lt_of_le h.lt hg.size,fun o=>?_⟩
  have:=hg.block b h.lt hne
  rw[←h.get o]
  unfold World.cell?
  rw[this]
theorem grown_trans {w w1 w2:World} {r:Option Nat} (h:w.grownBy w1 r) (k:w1.grownBy w2 r):w.grownBy w2 r:=
  ⟨k.os.trans h.os,k.tape.trans h.tape,k.output.trans h.output,Nat.le_trans h.size k.size,fun j hj hne=>(k.block j (Nat.lt_of_lt_of_le hj h.size) hne).trans (h.block j hj hne)⟩
theorem grown_below {w w1:World} (r:Option Nat) (h:Below w.heap.size w w1):w.grownBy w1 r:=⟨h.os,h.tape,h.output,h.size,fun k hk _=>h.block k hk⟩
theorem R_grownI {e base:Nat} {w w1:World} {v:Value} {xs:List Int} {row:Option Nat} (h:Kd.R (Kd.int .i64) e w base (fun _=>True) v xs) (hg:w.grownBy w1 row) (ha:v.ownBlock=none∨v.ownBlock≠row):Kd.R (Kd.int .i64) e w1 base (fun _=>True) v xs:=by
  obtain⟨h0,inner,ho,hr⟩:=h
  exact⟨h0,inner,ho.kept hg ha,hr⟩
theorem R_grownF {α:Type} {n:Nat} {enc:α→List Value} {hl:∀ x,(enc x).length=n} {h1:∀ x,∀ u∈enc x,u.oneCell'=true} {e base:Nat} {w w1:World} {v:Value} {xs:List α} {row:Option Nat} (h:Kd.R (Kd.flat n enc hl h1) e w base (fun _=>True) v xs) (hg:w.grownBy w1 row) (ha:v.ownBlock=none∨v.ownBlock≠row):Kd.R (Kd.flat n enc hl h1) e w1 base (fun _=>True) v xs:=by
  obtain⟨h0,inner,ho,hr⟩:=h
  exact⟨h0,inner,ho.kept hg ha,hr⟩
theorem rowI_grown {e base g n cap:Nat} {ok:Nat→Prop} {W:World} {xs:List Int} (h:Kd.R (Kd.int .i64) e W base ok (.slice (some ⟨g,0,none⟩) n cap) xs) (k:Nat) (v:Int):W.grownBy (W.setCell ⟨g,k,none⟩ (.int .i64 v)) (Value.slice (some ⟨g,0,none⟩) n cap).ownBlock:=by
  have h2:=(Kd.R_putg h (k:Int) v).2
  rw[Int.toNat_natCast] at h2
  simpa [Value.ownBlock] using h2

def fCells (x:Flit):List Value:=[.int .i64 x.pk,.int .i64 x.dst,.int .i64 x.cls,.bool x.head,.bool x.tail]
def kF:Kd Flit:=Kd.flat 5 fCells (fun _=>rfl) (fun x u hu=>by
  simp only[fCells,List.mem_cons,List.not_mem_nil,or_false] at hu
  rcases hu with rfl|rfl|rfl|rfl|rfl <;> rfl)
theorem rdFl_at {w:World} {A:Option Addr} {l:List Flit} (h:kF.C w A l.length l) (k:Nat) (hk:k<l.length) :
    ∃ b off,A=some ⟨b,off,none⟩∧b<w.heap.size∧w.cell? ⟨b,off+k*5,none⟩=some (.int .i64 (rf l k).pk)∧w.cell? ⟨b,off+k*5+1,none⟩=some (.int .i64 (rf l k).dst)∧w.cell? ⟨b,off+k*5+2,none⟩=some (.int .i64 (rf l k).cls)∧w.cell? ⟨b,off+k*5+3,none⟩=some (.bool (rf l k).head)∧w.cell? ⟨b,off+k*5+4,none⟩=some (.bool (rf l k).tail):=by
  obtain⟨b,off,rfl,hb,hx⟩:=rdF_at (n:=5) z0 (by omega) h k hk
  exact⟨b,off,rfl,hb,hx k hk 0 _ rfl,hx k hk 1 _ rfl,hx k hk 2 _ rfl,hx k hk 3 _ rfl,hx k hk 4 _ rfl⟩
def kB (e:Nat):Kd (List Flit):=Kd.slice e kF
theorem rdB_at {e:Nat} {w:World} {A:Option Addr} {l:List (List Flit)} (h:(kB e).C w A l.length l) (k:Nat) (hk:k<l.length) :
    ∃ b off,A=some ⟨b,off,none⟩∧b<w.heap.size∧∃ Ai ci,w.cell? ⟨b,off+k,none⟩=some (.slice Ai (rl l k).length ci)∧(rl l k).length≤ci∧kF.C w Ai (rl l k).length (rl l k):=by
  have key:∀ j,j<l.length→∃ ad,A=some ad∧∃ Ai ci,w.cell? (ad.add j)=some (.slice Ai (rl l j).length ci)∧(rl l j).length≤ci∧kF.C w Ai (rl l j).length (rl l j):=by
    intro j hj
    obtain⟨ad,cs,e1,_,hK,hc⟩:=Kd.C_get h [] (j:Int) (by omega) (by omega)
    obtain⟨Ai,ci,rfl,hle,hC⟩:=hK
    have h1:=hc 0 _ rfl
    rw[Int.toNat_natCast] at h1 hle hC
    refine⟨ad,e1,Ai,ci,?_,hle,hC⟩
    have e2:j*(kB e).sz+0=j:=by show j*1+0=j;omega
    rw[e2] at h1
    exact h1
  obtain⟨ad,rfl,A0,c0,h0,_,_⟩:=key 0 (by omega)
  have hs:ad.spot=none:=by
    cases hsp:ad.spot with
    | none=>rfl
    | some s=>
      have:ad.add 0=ad:=by simp[Addr.add]
      rw[this] at h0
      unfold World.cell? at h0
      split at h0
      · simp[hsp] at h0
      · simp at h0
  obtain⟨b,off,sp⟩:=ad
  simp only at hs
  subst hs
  refine⟨b,off,rfl,World.block_lt_of_cell? w _ h0,?_⟩
  obtain⟨ad,e1,Ai,ci,h1,h2,h3⟩:=key k hk
  obtain rfl:=Option.some.inj e1
  refine⟨Ai,ci,?_,h2,h3⟩
  rwa [show (⟨b,off,none⟩:Addr).add k=⟨b,off+k,none⟩ by unfold Addr.add;split <;> simp_all] at h1
structure NA where
  a1:Option Addr
  a2:Option Addr
  a3:Option Addr
  a4:Option Addr
  a5:Option Addr
  a6:Option Addr
  a7:Option Addr
  a8:Option Addr
  c1:Nat
  c2:Nat
  c3:Nat
  c4:Nat
  c5:Nat
  c6:Nat
  c7:Nat
  c8:Nat
def netCells (n:Net) (q:NA):Array Value:=
  #[.int .i64 n.mesh.g.w,.int .i64 n.mesh.g.h,.slice q.a1 n.mesh.br.length q.c1,.slice q.a2 n.pa.length q.c2,.slice q.a3 n.pb.length q.c3,.slice q.a4 n.bufs.length q.c4,.slice q.a5 n.owners.length q.c5,.slice q.a6 n.turns.length q.c6,.slice q.a7 n.srcs.length q.c7,.slice q.a8 n.arrs.length q.c8,.int .i64 n.time]
structure NetR (e:Nat) (w:World) (n:Net) (q:NA):Prop where
  br:Kd.C (Kd.int .i64) w q.a1 n.mesh.br.length n.mesh.br
  pa:Kd.C (Kd.int .i64) w q.a2 n.pa.length n.pa
  pb:Kd.C (Kd.int .i64) w q.a3 n.pb.length n.pb
  bufs:(kB e).C w q.a4 n.bufs.length n.bufs
  owners:Kd.C (Kd.int .i64) w q.a5 n.owners.length n.owners
  turns:Kd.C (Kd.int .i64) w q.a6 n.turns.length n.turns
  srcs:(kB e).C w q.a7 n.srcs.length n.srcs
  arrs:(kB e).C w q.a8 n.arrs.length n.arrs
  h1:n.mesh.br.length≤2097152
  h2:n.pa.length≤2097152
  h3:n.pb.length≤2097152
  h4:n.bufs.length≤2097152
  h5:n.owners.length≤2097152
  h6:n.turns.length≤2097152
  h7:n.srcs.length≤2097152
  h8:n.arrs.length≤2097152
  h9:∀ l∈n.bufs,l.length≤2097152
  h10:∀ l∈n.srcs,l.length≤2097152
  h11:∀ l∈n.arrs,l.length≤2097152
theorem NetR.below {e:Nat} {w w1:World} {n:Net} {q:NA} (h:NetR e w n q) (hb:Below w.heap.size w w1):NetR e w1 n q:=
  ⟨Kd.C_below h.br hb,Kd.C_below h.pa hb,Kd.C_below h.pb hb,Kd.C_below h.bufs hb,Kd.C_below h.owners hb,Kd.C_below h.turns hb,Kd.C_below h.srcs hb,Kd.C_below h.arrs hb,h.h1,h.h2,h.h3,h.h4,h.h5,h.h6,h.h7,h.h8,h.h9,h.h10,h.h11⟩
theorem info_F:(Tryz.prog.info? 153).map (fun i=>(i.zero,i.size,i.bytes))=some (some (.agg #[.int .i64 0,.int .i64 0,.int .i64 0,.bool false,.bool false]),5,32):=by kernel_rfl
def GotF (w w':World) (xs:List Flit) (e:Ending):Prop:=∃ v,e=.returned v∧kF.R 153 w' w.heap.size (fun _=>True) v xs
theorem GotF.read {w w':World} {xs:List Flit} {e:Ending} (h:GotF w w' xs e):∃ A c,e=.returned (.slice A xs.length c)∧xs.length≤c∧kF.C w' A xs.length xs:=by
  obtain⟨v,rfl,hR⟩:=h
  obtain⟨A,c,rfl,h1,h2⟩:=Kd.R_reads hR
  exact⟨A,c,rfl,h1,h2⟩
section
variable {ops:Array Oper} {rest:List Oper} {o:Oper} {a:Act} {Q:Exit→Act→World→Prop}
end

theorem info_B:(Tryz.prog.info? 145).map (fun i=>(i.zero,i.size,i.bytes))=some (some (.slice none 0 0),1,24):=by kernel_rfl
section
variable {ops:Array Oper} {rest:List Oper} {o:Oper} {a:Act} {Q:Exit→Act→World→Prop}
end
theorem set_getB {x:List (List Flit)} {k:Nat} {v:List Flit} (hk:k<x.length) (j:Nat) (hj:j<x.length):rl (x.set k v) j=if k=j then v else rl x j:=by
  by_cases e:k=j
  · subst e;simp[rl,List.getD_eq_getElem?_getD,hk]
  · simp[rl,List.getD_eq_getElem?_getD,e]
theorem rl_mem {l:List (List Flit)} {k:Nat} (h:k<l.length):rl l k∈l:=by
  have:rl l k=l[k]:=by simp[rl,List.getD_eq_getElem?_getD,h]
  rw[this]
  exact List.getElem_mem h

theorem Kd.R_rowX {α:Type} {d:Kd α} {w:World} {base e:Nat} {A:Option Addr} {m c:Nat} {xs:List α} (h:d.R e w base (fun _=>True) (.slice A m c) xs):m=xs.length∧m≤c∧d.C w A m xs:=by
  obtain⟨A',c',he,h1,h2⟩:=Kd.R_reads h
  injection he with e1 e2 e3
  subst e1 e2 e3
  exact⟨rfl,h1,h2⟩
set_option maxHeartbeats 4000000 in
set_option maxRecDepth 100000 in
/-- Of a network and what was copied from it. -/
structure Chg (lo hi:Nat) (w w1:World):Prop where
  os:w1.os=w.os
  tape:w1.tape=w.tape
  output:w1.output=w.output
  size:w.heap.size≤w1.heap.size
  block:∀ i,i<w.heap.size→(i<lo∨hi≤i)→w1.heap[i]?=w.heap[i]?
def RU {α:Type} (d:Kd α) (e:Nat) (w:World) (lo hi:Nat) (v:Value) (xs:List α):Prop:=d.R e w lo (fun k=>k<hi) v xs
theorem RU.of {α:Type} {d:Kd α} {e:Nat} {w:World} {base lo hi:Nat} {v:Value} {xs:List α} (h:d.R e w base (fun _=>True) v xs) (hl:lo≤base) (hh:w.heap.size≤hi):RU d e w lo hi v xs:=
  Kd.R_lower (Kd.R_mono (Kd.R_bound h) (fun k hk=>by have:=hk.2.2.1;omega)) hl
theorem RU.row {α:Type} {d:Kd α} {e:Nat} {w:World} {lo hi:Nat} {v:Value} {xs:List α} (h:RU d e w lo hi v xs):d.R e w lo (fun _=>True) v xs:=Kd.R_mono h (fun _ _=>trivial)
theorem RU.step {α:Type} {d:Kd α} {e:Nat} {w w1:World} {lo hi:Nat} {v:Value} {xs:List α} (h:RU d e w lo hi v xs) (hm:∀ k,lo≤k→k<hi→k<w.heap.size→w1.heap[k]?=w.heap[k]?):RU d e w1 lo hi v xs:=
  Kd.R_mono (Kd.R_move (Kd.R_bound h) (fun k hk=>hm k hk.2.1 hk.1 hk.2.2.1)) (fun _ hk=>hk.1)
theorem RU.below {α:Type} {d:Kd α} {e:Nat} {w w1:World} {lo hi:Nat} {v:Value} {xs:List α} (h:RU d e w lo hi v xs) (hb:Below w.heap.size w w1):RU d e w1 lo hi v xs:=Kd.R_below h hb
theorem RU.chg {α:Type} {d:Kd α} {e:Nat} {w w1:World} {lo hi a b:Nat} {v:Value} {xs:List α} (h:RU d e w lo hi v xs) (hg:Chg a b w w1) (hne:hi≤a∨b≤lo):RU d e w1 lo hi v xs:=
  h.step (fun k h1 h2 h3=>hg.block k h3 (by omega))
theorem RU.within {α:Type} {d:Kd α} {e:Nat} {w:World} {lo hi:Nat} {v:Value} {xs:List α} (h:RU d e w lo hi v xs):Within v lo hi:=fun k hk=>⟨Kd.R_base h k hk,h.1 k hk⟩
theorem RU.reads {α:Type} {d:Kd α} {e:Nat} {w:World} {lo hi:Nat} {A:Option Addr} {m c:Nat} {xs:List α} (h:RU d e w lo hi (.slice A m c) xs):m=xs.length∧m≤c∧d.C w A m xs:=Kd.R_rowX h.row
def vr (vs:List Value) (i:Nat):Value:=vs.getD i (.slice none 0 0)
theorem vr_set {vs:List Value} {k:Nat} {v:Value} (hk:k<vs.length) (j:Nat):vr (vs.set k v) j=if j=k then v else vr vs j:=by
  by_cases e:j=k
  · subst e;simp[vr,List.getD_eq_getElem?_getD,hk]
  · have e':¬ k=j:=fun h=>e h.symm
    simp[vr,List.getD_eq_getElem?_getD,e,e']
theorem vr_get {vs:List Value} {k:Nat} (hk:k<vs.length):vs[k]?=some (vr vs k):=by
  simp[vr,List.getD_eq_getElem?_getD,hk]
def BlkT (w:World) (g t:Nat):Prop:=∃ cells,w.heap[g]?=some (.cells cells t (0,0))
theorem BlkT.below {w w1:World} {g t:Nat} (h:BlkT w g t) (hb:Below w.heap.size w w1):BlkT w1 g t:=let ⟨c,hc⟩:=h;⟨c,blk_below hc hb⟩
theorem BlkT.set {w:World} {g t:Nat} (h:BlkT w g t) (b o:Nat) (u:Value):BlkT (w.setCell ⟨b,o,none⟩ u) g t:=by
  obtain⟨c,hc⟩:=h
  by_cases e:g=b
  · subst e;exact⟨_,blk_set hc o u⟩
  · exact⟨c,blk_far (p:=⟨b,o,none⟩) hc e u⟩
structure FR (w:World) (lo:Nat) (vs:List Value) (l:List (List Flit)):Prop where
  len:vs.length=l.length
  row:∀ i:Nat,i<l.length→kF.R 153 w lo (fun _=>True) (vr vs i) (rl l i)
  ap:∀ i j:Nat,i<j→j<l.length→Apart (vr vs i) (vr vs j)
theorem FR.ap' {w:World} {lo:Nat} {vs:List Value} {l:List (List Flit)} (h:FR w lo vs l) {i j:Nat} (hne:i≠j) (hi:i<l.length) (hj:j<l.length):Apart (vr vs i) (vr vs j):=by
  rcases Nat.lt_or_gt_of_ne hne with h1|h1
  · exact h.ap i j h1 hj
  · exact apart_comm (h.ap j i h1 hi)
theorem FR.below {w w1:World} {lo:Nat} {vs:List Value} {l:List (List Flit)} (h:FR w lo vs l) (hb:Below w.heap.size w w1):FR w1 lo vs l:=⟨h.len,fun i hi=>Kd.R_below (h.row i hi) hb,h.ap⟩
theorem FR.lower {w:World} {lo lo':Nat} {vs:List Value} {l:List (List Flit)} (h:FR w lo vs l) (hl:lo'≤lo):FR w lo' vs l:=⟨h.len,fun i hi=>Kd.R_lower (h.row i hi) hl,h.ap⟩
theorem FR.typed {w:World} {lo:Nat} {vs:List Value} {l:List (List Flit)} (h:FR w lo vs l) {g t:Nat} (hb:BlkT w g t) (ht:153≠t) (j:Nat) (u:Value):FR (w.setCell ⟨g,j,none⟩ u) lo vs l:=by
  obtain⟨c,hc⟩:=hb
  refine⟨h.len,fun i hi=>Kd.R_set (h.row i hi) hc (fun q hq=>?_) j u,h.ap⟩
  have e:q=153:=by simpa [kF,Kd.flat] using hq
  rw[e]
  exact ht
def Anew (w:World) (u v:Value):Prop:=u.ownBlock=none∨u.ownBlock=v.ownBlock∨∃ b,u.ownBlock=some b∧w.heap.size≤b
theorem FR.upd {w w1:World} {lo:Nat} {vs:List Value} {l:List (List Flit)} (h:FR w lo vs l) (k:Nat) (hk:k<l.length) (hg:w.grownBy w1 (vr vs k).ownBlock) {u:Value} {y:List Flit} (hu:kF.R 153 w1 lo (fun _=>True) u y) (hat:Anew w u (vr vs k)):FR w1 lo (vs.set k u) (l.set k y):=by
  have hl:=h.len
  have other:∀ i:Nat,i<l.length→i≠k→Apart (vr vs i) u:=by
    intro i hi hne
    have ha:=h.ap' hne hi hk
    rcases hat with h1|h1|⟨b,h1,h2⟩
    · exact apart_comm (.inl h1)
    · unfold Apart at ha ⊢
      rwa [h1]
    · have hw:=within_R (h.row i hi)
      cases e:(vr vs i).ownBlock with
      | none=>exact .inl e
      | some g=>
        right
        rw[h1,e]
        intro e2
        have:=hw g e
        have:=Option.some.inj e2
        omega
  refine⟨by rw[List.length_set,List.length_set,hl],fun i hi=>?_,fun i j hij hj=>?_⟩
  · rw[List.length_set] at hi
    rw[vr_set (by omega),set_getB hk i hi]
    by_cases e:i=k
    · subst e
      rw[if_pos rfl,if_pos rfl]
      exact hu
    · rw[if_neg e,if_neg (fun h=>e h.symm)]
      exact R_grownF (h.row i hi) hg (h.ap' e hi hk)
  · rw[List.length_set] at hj
    rw[vr_set (by omega),vr_set (by omega)]
    by_cases e1:i=k
    · rw[if_pos e1,if_neg (by omega)]
      exact apart_comm (other j hj (by omega))
    · rw[if_neg e1]
      by_cases e2:j=k
      · rw[if_pos e2]
        exact other i (by omega) e1
      · rw[if_neg e2]
        exact h.ap i j hij hj
structure NB (n:Net):Prop where
  h1:n.mesh.br.length≤2097152
  h2:n.pa.length≤2097152
  h3:n.pb.length≤2097152
  h4:n.bufs.length≤2097152
  h5:n.owners.length≤2097152
  h6:n.turns.length≤2097152
  h7:n.srcs.length≤2097152
  h8:n.arrs.length≤2097152
  h9:∀ l∈n.bufs,l.length≤2097152
  h10:∀ l∈n.srcs,l.length≤2097152
  h11:∀ l∈n.arrs,l.length≤2097152
theorem NetR.nb {e:Nat} {w:World} {n:Net} {q:NA} (k:NetR e w n q):NB n:=⟨k.h1,k.h2,k.h3,k.h4,k.h5,k.h6,k.h7,k.h8,k.h9,k.h10,k.h11⟩
def iv (n:Net) (q:NA):List Value:=[.slice q.a1 n.mesh.br.length q.c1,.slice q.a2 n.pa.length q.c2,.slice q.a3 n.pb.length q.c3,.slice q.a5 n.owners.length q.c5,.slice q.a6 n.turns.length q.c6]
def ov (n:Net) (q:NA):List Value:=[.slice q.a4 n.bufs.length q.c4,.slice q.a7 n.srcs.length q.c7,.slice q.a8 n.arrs.length q.c8]
def AllAp (m:Nat) (vs:List Value):Prop:=∀ i j:Nat,i<j→j<m→Apart (vr vs i) (vr vs j)
theorem AllAp.of {m:Nat} {vs:List Value} (h:AllAp m vs) {i j:Nat} (hne:i≠j) (hi:i<m) (hj:j<m):Apart (vr vs i) (vr vs j):=by
  rcases Nat.lt_or_gt_of_ne hne with h1|h1
  · exact h i j h1 hj
  · exact apart_comm (h j i h1 hi)
def vlen:Value→Nat
  | .slice _ n _=>n
  | _=>0
def Ap0 (u v:Value):Prop:=vlen u=0∨vlen v=0∨Apart u v
theorem Ap0.comm {u v:Value} (h:Ap0 u v):Ap0 v u:=by
  rcases h with h|h|h
  · exact .inr (.inl h)
  · exact .inl h
  · exact .inr (.inr (apart_comm h))
def AllAp0 (m:Nat) (vs:List Value):Prop:=∀ i j:Nat,i<j→j<m→Ap0 (vr vs i) (vr vs j)
theorem AllAp0.of {m:Nat} {vs:List Value} (h:AllAp0 m vs) {i j:Nat} (hne:i≠j) (hi:i<m) (hj:j<m):Ap0 (vr vs i) (vr vs j):=by
  rcases Nat.lt_or_gt_of_ne hne with h1|h1
  · exact h i j h1 hj
  · exact(h j i h1 hi).comm
theorem R_empty_set {w:World} {lo e g k c:Nat} {A:Option Addr} (h:Kd.R (Kd.int .i64) e w lo (fun _=>True) (.slice A 0 c) []) (u:Value):Kd.R (Kd.int .i64) e (w.setCell ⟨g,k,none⟩ u) lo (fun _=>True) (.slice A 0 c) []:=by
  obtain⟨_,inner,ho,hr⟩:=h
  have hi:inner=[]:=List.eq_nil_of_length_eq_zero (by have:=ho.1;simpa using this)
  subst hi
  refine⟨fun _ _=>trivial,[],?_,Reps.none _ _⟩
  by_cases e2:some g=(Value.slice A 0 c).ownBlock
  · rcases ho.2 with ⟨e3,_⟩|⟨g',cap,cur,e3,hb,hc,h1,h2,h3,h4⟩
    · rw[e3] at e2;simp[Value.ownBlock] at e2
    · rw[e3] at e2
      simp only[Value.ownBlock,Option.some.injEq] at e2
      subst e2
      rw[e3]
      exact⟨by simp,.inr ⟨g,cap,cur.setIfInBounds k u,rfl,hb,blk_set hc k u,h1,h2,by simp[h3],by simp⟩⟩
  · exact own_setCell ho (p:=⟨g,k,none⟩) e2 u
structure NX (w:World) (lo:Nat) (n:Net) (q:NA) (v4 v7 v8:List Value):Prop where
  br:Kd.R (Kd.int .i64) 3 w lo (fun _=>True) (.slice q.a1 n.mesh.br.length q.c1) n.mesh.br
  pa:Kd.R (Kd.int .i64) 3 w lo (fun _=>True) (.slice q.a2 n.pa.length q.c2) n.pa
  pb:Kd.R (Kd.int .i64) 3 w lo (fun _=>True) (.slice q.a3 n.pb.length q.c3) n.pb
  owners:Kd.R (Kd.int .i64) 3 w lo (fun _=>True) (.slice q.a5 n.owners.length q.c5) n.owners
  turns:Kd.R (Kd.int .i64) 3 w lo (fun _=>True) (.slice q.a6 n.turns.length q.c6) n.turns
  bufs:w.ownsRow lo 145 1 (.slice q.a4 n.bufs.length q.c4) n.bufs.length v4
  srcs:w.ownsRow lo 145 1 (.slice q.a7 n.srcs.length q.c7) n.srcs.length v7
  arrs:w.ownsRow lo 145 1 (.slice q.a8 n.arrs.length q.c8) n.arrs.length v8
  rows:FR w lo (v4++(v7++v8)) (n.bufs++(n.srcs++n.arrs))
  apI:AllAp0 5 (iv n q)
  apO:AllAp 3 (ov n q)
section
variable {w w1:World} {lo:Nat} {n:Net} {q:NA} {v4 v7 v8:List Value}
theorem NX.l4 (h:NX w lo n q v4 v7 v8):v4.length=n.bufs.length:=by have:=h.bufs.1;omega
theorem NX.l7 (h:NX w lo n q v4 v7 v8):v7.length=n.srcs.length:=by have:=h.srcs.1;omega
theorem NX.l8 (h:NX w lo n q v4 v7 v8):v8.length=n.arrs.length:=by have:=h.arrs.1;omega
theorem vr_left {a b:List Value} {i:Nat} (h:i<a.length):vr (a++b) i=vr a i:=by simp[vr,List.getD_eq_getElem?_getD,List.getElem?_append,h]
theorem vr_right {a b:List Value} {i:Nat}:vr (a++b) (a.length+i)=vr b i:=by
  have h:¬ a.length+i<a.length:=by omega
  simp[vr,List.getD_eq_getElem?_getD,List.getElem?_append,h]
theorem rl_left {a b:List (List Flit)} {i:Nat} (h:i<a.length):rl (a++b) i=rl a i:=by simp[rl,List.getD_eq_getElem?_getD,List.getElem?_append,h]
theorem rl_right {a b:List (List Flit)} {i:Nat}:rl (a++b) ((a.length+i:Nat):Int)=rl b i:=by
  have h:¬ a.length+i<a.length:=by omega
  simp only[rl,Int.toNat_natCast]
  simp[List.getD_eq_getElem?_getD,List.getElem?_append,h]
theorem set_mid {α:Type} (a b c:List α) (k:Nat) (u:α) (hk:k<b.length):(a++(b++c)).set (a.length+k) u=a++(b.set k u++c):=by
  rw[List.set_append_right _ _ (by omega),Nat.add_sub_cancel_left,List.set_append_left _ _ hk]
theorem set_end {α:Type} (a b c:List α) (k:Nat) (u:α):(a++(b++c)).set (a.length+(b.length+k)) u=a++(b++c.set k u):=by
  rw[List.set_append_right _ _ (by omega),Nat.add_sub_cancel_left,List.set_append_right _ _ (by omega),Nat.add_sub_cancel_left]
theorem NX.row4 (h:NX w lo n q v4 v7 v8) (k:Nat) (hk:k<n.bufs.length):kF.R 153 w lo (fun _=>True) (vr v4 k) (rl n.bufs k):=by
  have:=h.rows.row k (by simp;omega)
  rwa [vr_left (by rw[h.l4];exact hk),rl_left hk] at this
theorem NX.row7 (h:NX w lo n q v4 v7 v8) (k:Nat) (hk:k<n.srcs.length):kF.R 153 w lo (fun _=>True) (vr v7 k) (rl n.srcs k):=by
  have:=h.rows.row (n.bufs.length+k) (by simp;omega)
  rw[rl_right,←h.l4,vr_right] at this
  rwa [vr_left (by rw[h.l7];exact hk),rl_left hk] at this
theorem NX.row8 (h:NX w lo n q v4 v7 v8) (k:Nat) (hk:k<n.arrs.length):kF.R 153 w lo (fun _=>True) (vr v8 k) (rl n.arrs k):=by
  have:=h.rows.row (n.bufs.length+(n.srcs.length+k)) (by simp;omega)
  rw[rl_right,rl_right,←h.l4,vr_right,←h.l7,vr_right] at this
  exact this
theorem NX.below (h:NX w lo n q v4 v7 v8) (hb:Below w.heap.size w w1):NX w1 lo n q v4 v7 v8:=
  ⟨Kd.R_below h.br hb,Kd.R_below h.pa hb,Kd.R_below h.pb hb,Kd.R_below h.owners hb,Kd.R_below h.turns hb,pw_own_below h.bufs hb,pw_own_below h.srcs hb,pw_own_below h.arrs hb,h.rows.below hb,h.apI,h.apO⟩
theorem NX.lower (h:NX w lo n q v4 v7 v8) {lo':Nat} (hl:lo'≤lo):NX w lo' n q v4 v7 v8:=
  ⟨Kd.R_lower h.br hl,Kd.R_lower h.pa hl,Kd.R_lower h.pb hl,Kd.R_lower h.owners hl,Kd.R_lower h.turns hl,own_weaken h.bufs hl,own_weaken h.srcs hl,own_weaken h.arrs hl,h.rows.lower hl,h.apI,h.apO⟩
theorem NX.typed (h:NX w lo n q v4 v7 v8) {g t:Nat} (hb:BlkT w g t) (h1:3≠t) (h2:145≠t) (h3:153≠t) (j:Nat) (u:Value):NX (w.setCell ⟨g,j,none⟩ u) lo n q v4 v7 v8:=by
  have hb':=hb
  obtain⟨c,hc⟩:=hb
  have hI:∀ x,x∈3::(Kd.int .i64).E→x≠t:=fun x hx=>by
    have e:x=3:=by simpa [Kd.int,Kd.scalar] using hx
    rw[e]
    exact h1
  exact⟨Kd.R_set h.br hc hI j u,Kd.R_set h.pa hc hI j u,Kd.R_set h.pb hc hI j u,Kd.R_set h.owners hc hI j u,Kd.R_set h.turns hc hI j u,own_setCell h.bufs (p:=⟨g,j,none⟩) (own_ne h.bufs hc h2) u,own_setCell h.srcs (p:=⟨g,j,none⟩) (own_ne h.srcs hc h2) u,own_setCell h.arrs (p:=⟨g,j,none⟩) (own_ne h.arrs hc h2) u,h.rows.typed hb' h3 j u,h.apI,h.apO⟩
theorem NX.kept (h:NX w lo n q v4 v7 v8) {k:Nat} (hk:k<(n.bufs++(n.srcs++n.arrs)).length) (hg:w.grownBy w1 (vr (v4++(v7++v8)) k).ownBlock):Kd.R (Kd.int .i64) 3 w1 lo (fun _=>True) (.slice q.a1 n.mesh.br.length q.c1) n.mesh.br∧Kd.R (Kd.int .i64) 3 w1 lo (fun _=>True) (.slice q.a2 n.pa.length q.c2) n.pa∧Kd.R (Kd.int .i64) 3 w1 lo (fun _=>True) (.slice q.a3 n.pb.length q.c3) n.pb∧Kd.R (Kd.int .i64) 3 w1 lo (fun _=>True) (.slice q.a5 n.owners.length q.c5) n.owners∧Kd.R (Kd.int .i64) 3 w1 lo (fun _=>True) (.slice q.a6 n.turns.length q.c6) n.turns∧w1.ownsRow lo 145 1 (.slice q.a4 n.bufs.length q.c4) n.bufs.length v4∧w1.ownsRow lo 145 1 (.slice q.a7 n.srcs.length q.c7) n.srcs.length v7∧w1.ownsRow lo 145 1 (.slice q.a8 n.arrs.length q.c8) n.arrs.length v8:=by
  obtain⟨inner,hin⟩:=Kd.R_own (h.rows.row k hk)
  have keepI:∀ {v:Value} {xs:List Int},Kd.R (Kd.int .i64) 3 w lo (fun _=>True) v xs→Kd.R (Kd.int .i64) 3 w1 lo (fun _=>True) v xs:=fun hr=>by
    obtain⟨i2,hi2⟩:=Kd.R_own hr
    exact R_grownI hr hg (own_type_ne hi2 hin (by decide))
  exact⟨keepI h.br,keepI h.pa,keepI h.pb,keepI h.owners,keepI h.turns,own_other h.bufs hg (own_type_ne h.bufs hin (by decide)),own_other h.srcs hg (own_type_ne h.srcs hin (by decide)),own_other h.arrs hg (own_type_ne h.arrs hin (by decide))⟩
theorem own_put {W:World} {base g m cap k:Nat} {vs:List Value} (h:W.ownsRow base 145 1 (.slice (some ⟨g,0,none⟩) m cap) m vs) (u:Value):(W.setCell ⟨g,k,none⟩ u).ownsRow base 145 1 (.slice (some ⟨g,0,none⟩) m cap) m (vs.set k u):=(h.stored k u).1
theorem NX.setBuf {g:Nat} (h:NX w lo n q v4 v7 v8) (ea:q.a4=some ⟨g,0,none⟩) (k:Nat) (hk:k<n.bufs.length) (hg:w.grownBy w1 (vr v4 k).ownBlock) {u:Value} {y:List Flit} (hu:kF.R 153 w1 lo (fun _=>True) u y) (hat:Anew w u (vr v4 k)) :
    NX (w1.setCell ⟨g,k,none⟩ u) lo { n with bufs:=n.bufs.set k y } q (v4.set k u) v7 v8:=by
  have e1:vr (v4++(v7++v8)) k=vr v4 k:=vr_left (by rw[h.l4];exact hk)
  have hk2:k<(n.bufs++(n.srcs++n.arrs)).length:=by simp;omega
  obtain⟨i1,i2,i3,i4,i5,o4,o7,o8⟩:=h.kept hk2 (by rw[e1];exact hg)
  have hb:BlkT w1 g 145:=own_typed o4 g (by rw[ea];rfl)
  obtain⟨c,hc⟩:=hb
  have hI:∀ x,x∈3::(Kd.int .i64).E→x≠145:=fun x hx=>by
    have e:x=3:=by simpa [Kd.int,Kd.scalar] using hx
    rw[e]
    decide
  have hF:=h.rows.upd k hk2 (by rw[e1];exact hg) hu (by rw[e1];exact hat)
  rw[List.set_append_left _ _ (by rw[h.l4];exact hk),List.set_append_left _ _ hk] at hF
  have a7:some g≠(Value.slice q.a7 n.srcs.length q.c7).ownBlock:=by
    have:=h.apO 0 1 (by omega) (by omega)
    rcases this with h0|h0
    · rw[show vr (ov n q) 0=.slice q.a4 n.bufs.length q.c4 from rfl,ea] at h0;cases h0
    · rw[show vr (ov n q) 0=.slice q.a4 n.bufs.length q.c4 from rfl,ea] at h0
      exact h0
  have a8:some g≠(Value.slice q.a8 n.arrs.length q.c8).ownBlock:=by
    have:=h.apO 0 2 (by omega) (by omega)
    rcases this with h0|h0
    · rw[show vr (ov n q) 0=.slice q.a4 n.bufs.length q.c4 from rfl,ea] at h0;cases h0
    · rw[show vr (ov n q) 0=.slice q.a4 n.bufs.length q.c4 from rfl,ea] at h0
      exact h0
  refine⟨Kd.R_set i1 hc hI k u,Kd.R_set i2 hc hI k u,Kd.R_set i3 hc hI k u,Kd.R_set i4 hc hI k u,Kd.R_set i5 hc hI k u,?_,own_setCell o7 (p:=⟨g,k,none⟩) a7 u,own_setCell o8 (p:=⟨g,k,none⟩) a8 u,hF.typed ⟨c,hc⟩ (by decide) k u,h.apI,?_⟩
  · rw[ea] at o4 ⊢
    simp only[List.length_set]
    exact own_put o4 u
  · have:ov { n with bufs:=n.bufs.set k y } q=ov n q:=by simp[ov]
    rw[this]
    exact h.apO
theorem NX.setSrc {g:Nat} (h:NX w lo n q v4 v7 v8) (ea:q.a7=some ⟨g,0,none⟩) (k:Nat) (hk:k<n.srcs.length) (hg:w.grownBy w1 (vr v7 k).ownBlock) {u:Value} {y:List Flit} (hu:kF.R 153 w1 lo (fun _=>True) u y) (hat:Anew w u (vr v7 k)) :
    NX (w1.setCell ⟨g,k,none⟩ u) lo { n with srcs:=n.srcs.set k y } q v4 (v7.set k u) v8:=by
  have e1:vr (v4++(v7++v8)) (n.bufs.length+k)=vr v7 k:=by rw[←h.l4,vr_right,vr_left (by rw[h.l7];exact hk)]
  have hk2:n.bufs.length+k<(n.bufs++(n.srcs++n.arrs)).length:=by simp;omega
  obtain⟨i1,i2,i3,i4,i5,o4,o7,o8⟩:=h.kept hk2 (by rw[e1];exact hg)
  obtain⟨c,hc⟩:=own_typed o7 g (by rw[ea];rfl)
  have hI:∀ x,x∈3::(Kd.int .i64).E→x≠145:=fun x hx=>by
    have e:x=3:=by simpa [Kd.int,Kd.scalar] using hx
    rw[e]
    decide
  have hF:=h.rows.upd (n.bufs.length+k) hk2 (by rw[e1];exact hg) hu (by rw[e1];exact hat)
  rw[set_mid n.bufs n.srcs n.arrs k y hk,show (v4++(v7++v8)).set (n.bufs.length+k) u=v4++(v7.set k u++v8) by rw[←h.l4];exact set_mid _ _ _ _ _ (by rw[h.l7];exact hk)] at hF
  have a4:some g≠(Value.slice q.a4 n.bufs.length q.c4).ownBlock:=by
    have:=h.apO.of (i:=1) (j:=0) (by omega) (by omega) (by omega)
    rcases this with h0|h0
    · rw[show vr (ov n q) 1=.slice q.a7 n.srcs.length q.c7 from rfl,ea] at h0;cases h0
    · rw[show vr (ov n q) 1=.slice q.a7 n.srcs.length q.c7 from rfl,ea] at h0
      exact h0
  have a8:some g≠(Value.slice q.a8 n.arrs.length q.c8).ownBlock:=by
    have:=h.apO 1 2 (by omega) (by omega)
    rcases this with h0|h0
    · rw[show vr (ov n q) 1=.slice q.a7 n.srcs.length q.c7 from rfl,ea] at h0;cases h0
    · rw[show vr (ov n q) 1=.slice q.a7 n.srcs.length q.c7 from rfl,ea] at h0
      exact h0
  refine⟨Kd.R_set i1 hc hI k u,Kd.R_set i2 hc hI k u,Kd.R_set i3 hc hI k u,Kd.R_set i4 hc hI k u,Kd.R_set i5 hc hI k u,own_setCell o4 (p:=⟨g,k,none⟩) a4 u,?_,own_setCell o8 (p:=⟨g,k,none⟩) a8 u,hF.typed ⟨c,hc⟩ (by decide) k u,h.apI,?_⟩
  · rw[ea] at o7 ⊢
    simp only[List.length_set]
    exact own_put o7 u
  · have:ov { n with srcs:=n.srcs.set k y } q=ov n q:=by simp[ov]
    rw[this]
    exact h.apO
theorem NX.setArr {g:Nat} (h:NX w lo n q v4 v7 v8) (ea:q.a8=some ⟨g,0,none⟩) (k:Nat) (hk:k<n.arrs.length) (hg:w.grownBy w1 (vr v8 k).ownBlock) {u:Value} {y:List Flit} (hu:kF.R 153 w1 lo (fun _=>True) u y) (hat:Anew w u (vr v8 k)) :
    NX (w1.setCell ⟨g,k,none⟩ u) lo { n with arrs:=n.arrs.set k y } q v4 v7 (v8.set k u):=by
  have e1:vr (v4++(v7++v8)) (n.bufs.length+(n.srcs.length+k))=vr v8 k:=by rw[←h.l4,vr_right,←h.l7,vr_right]
  have hk2:n.bufs.length+(n.srcs.length+k)<(n.bufs++(n.srcs++n.arrs)).length:=by simp;omega
  obtain⟨i1,i2,i3,i4,i5,o4,o7,o8⟩:=h.kept hk2 (by rw[e1];exact hg)
  obtain⟨c,hc⟩:=own_typed o8 g (by rw[ea];rfl)
  have hI:∀ x,x∈3::(Kd.int .i64).E→x≠145:=fun x hx=>by
    have e:x=3:=by simpa [Kd.int,Kd.scalar] using hx
    rw[e]
    decide
  have hF:=h.rows.upd (n.bufs.length+(n.srcs.length+k)) hk2 (by rw[e1];exact hg) hu (by rw[e1];exact hat)
  rw[set_end n.bufs n.srcs n.arrs k y,show (v4++(v7++v8)).set (n.bufs.length+(n.srcs.length+k)) u=v4++(v7++v8.set k u) by rw[←h.l4,←h.l7];exact set_end _ _ _ _ _] at hF
  have a4:some g≠(Value.slice q.a4 n.bufs.length q.c4).ownBlock:=by
    have:=h.apO.of (i:=2) (j:=0) (by omega) (by omega) (by omega)
    rcases this with h0|h0
    · rw[show vr (ov n q) 2=.slice q.a8 n.arrs.length q.c8 from rfl,ea] at h0;cases h0
    · rw[show vr (ov n q) 2=.slice q.a8 n.arrs.length q.c8 from rfl,ea] at h0
      exact h0
  have a7:some g≠(Value.slice q.a7 n.srcs.length q.c7).ownBlock:=by
    have:=h.apO.of (i:=2) (j:=1) (by omega) (by omega) (by omega)
    rcases this with h0|h0
    · rw[show vr (ov n q) 2=.slice q.a8 n.arrs.length q.c8 from rfl,ea] at h0;cases h0
    · rw[show vr (ov n q) 2=.slice q.a8 n.arrs.length q.c8 from rfl,ea] at h0
      exact h0
  refine⟨Kd.R_set i1 hc hI k u,Kd.R_set i2 hc hI k u,Kd.R_set i3 hc hI k u,Kd.R_set i4 hc hI k u,Kd.R_set i5 hc hI k u,own_setCell o4 (p:=⟨g,k,none⟩) a4 u,own_setCell o7 (p:=⟨g,k,none⟩) a7 u,?_,hF.typed ⟨c,hc⟩ (by decide) k u,h.apI,?_⟩
  · rw[ea] at o8 ⊢
    simp only[List.length_set]
    exact own_put o8 u
  · have:ov { n with arrs:=n.arrs.set k y } q=ov n q:=by simp[ov]
    rw[this]
    exact h.apO
theorem NX.ints (h:NX w lo n q v4 v7 v8) {g i:Nat} (hi:i<5) (eg:(vr (iv n q) i).ownBlock=some g) (hl:vlen (vr (iv n q) i)≠0) (hb:BlkT w g 3) (k:Nat) (u:Value) :
    (∀ j,j<5→j≠i→∀ (A:Option Addr) (m c:Nat) (xs:List Int),vr (iv n q) j=.slice A m c→Kd.R (Kd.int .i64) 3 w lo (fun _=>True) (.slice A m c) xs→Kd.R (Kd.int .i64) 3 (w.setCell ⟨g,k,none⟩ u) lo (fun _=>True) (.slice A m c) xs)∧(w.setCell ⟨g,k,none⟩ u).ownsRow lo 145 1 (.slice q.a4 n.bufs.length q.c4) n.bufs.length v4∧(w.setCell ⟨g,k,none⟩ u).ownsRow lo 145 1 (.slice q.a7 n.srcs.length q.c7) n.srcs.length v7∧(w.setCell ⟨g,k,none⟩ u).ownsRow lo 145 1 (.slice q.a8 n.arrs.length q.c8) n.arrs.length v8∧FR (w.setCell ⟨g,k,none⟩ u) lo (v4++(v7++v8)) (n.bufs++(n.srcs++n.arrs)):=by
  have hb':=hb
  obtain⟨c,hc⟩:=hb
  refine⟨fun j hj hne A m cc xs ev hr=>?_,own_setCell h.bufs (p:=⟨g,k,none⟩) (own_ne h.bufs hc (by decide)) u,own_setCell h.srcs (p:=⟨g,k,none⟩) (own_ne h.srcs hc (by decide)) u,own_setCell h.arrs (p:=⟨g,k,none⟩) (own_ne h.arrs hc (by decide)) u,h.rows.typed hb' (by decide) k u⟩
  have ha:=h.apI.of hne hj hi
  rw[ev] at ha
  rcases ha with h0|h0|ha
  · have hm:=(Kd.R_rowX hr).1
    have e0:m=0:=h0
    subst e0
    obtain rfl:xs=[]:=List.eq_nil_of_length_eq_zero hm.symm
    exact R_empty_set hr u
  · exact absurd h0 hl
  · refine Kd.R_mono (Kd.R_far (p:=⟨g,k,none⟩) (ok:=fun x=>x≠g) ?_ (fun x hx=>hx) u) (fun _ _=>trivial)
    obtain⟨_,inner,ho,hrr⟩:=hr
    refine⟨fun x hx=>?_,inner,ho,hrr⟩
    rcases ha with h0|h0
    · rw[h0] at hx;cases hx
    · intro e
      subst e
      exact h0 (hx.trans eg.symm)
theorem NX.setOwner {g:Nat} (h:NX w lo n q v4 v7 v8) (ea:q.a5=some ⟨g,0,none⟩) (k:Nat) (hk:k<n.owners.length) (x:Int):NX (w.setCell ⟨g,k,none⟩ (.int .i64 x)) lo { n with owners:=n.owners.set k x } q v4 v7 v8:=by
  have ho:=h.owners
  rw[ea] at ho
  have hb:BlkT w g 3:=by obtain⟨i,hin⟩:=Kd.R_own ho;exact own_typed hin g rfl
  obtain⟨hI,o4,o7,o8,hF⟩:=h.ints (i:=3) (by omega) (g:=g) (by show (Value.slice q.a5 n.owners.length q.c5).ownBlock=some g;rw[ea];rfl) (by show n.owners.length≠0;omega) hb k (.int .i64 x)
  refine⟨hI 0 (by omega) (by omega) _ _ _ _ rfl h.br,hI 1 (by omega) (by omega) _ _ _ _ rfl h.pa,hI 2 (by omega) (by omega) _ _ _ _ rfl h.pb,?_,hI 4 (by omega) (by omega) _ _ _ _ rfl h.turns,o4,o7,o8,hF,?_,h.apO⟩
  · rw[ea]
    simp only[List.length_set]
    exact rowI_set ho k x
  · have:iv { n with owners:=n.owners.set k x } q=iv n q:=by simp[iv]
    rw[this]
    exact h.apI
theorem NX.setTurn {g:Nat} (h:NX w lo n q v4 v7 v8) (ea:q.a6=some ⟨g,0,none⟩) (k:Nat) (hk:k<n.turns.length) (x:Int):NX (w.setCell ⟨g,k,none⟩ (.int .i64 x)) lo { n with turns:=n.turns.set k x } q v4 v7 v8:=by
  have ho:=h.turns
  rw[ea] at ho
  have hb:BlkT w g 3:=by obtain⟨i,hin⟩:=Kd.R_own ho;exact own_typed hin g rfl
  obtain⟨hI,o4,o7,o8,hF⟩:=h.ints (i:=4) (by omega) (g:=g) (by show (Value.slice q.a6 n.turns.length q.c6).ownBlock=some g;rw[ea];rfl) (by show n.turns.length≠0;omega) hb k (.int .i64 x)
  refine⟨hI 0 (by omega) (by omega) _ _ _ _ rfl h.br,hI 1 (by omega) (by omega) _ _ _ _ rfl h.pa,hI 2 (by omega) (by omega) _ _ _ _ rfl h.pb,hI 3 (by omega) (by omega) _ _ _ _ rfl h.owners,?_,o4,o7,o8,hF,?_,h.apO⟩
  · rw[ea]
    simp only[List.length_set]
    exact rowI_set ho k x
  · have:iv { n with turns:=n.turns.set k x } q=iv n q:=by simp[iv]
    rw[this]
    exact h.apI
theorem NX.time (h:NX w lo n q v4 v7 v8) (t:Int):NX w lo { n with time:=t } q v4 v7 v8:=⟨h.br,h.pa,h.pb,h.owners,h.turns,h.bufs,h.srcs,h.arrs,h.rows,h.apI,h.apO⟩
theorem own_readsB {w:World} {lo m c:Nat} {A:Option Addr} {vs:List Value} {l:List (List Flit)} (ho:w.ownsRow lo 145 1 (.slice A m c) l.length vs) (hr:∀ i:Nat,i<l.length→kF.R 153 w lo (fun _=>True) (vr vs i) (rl l i)):m=l.length∧m≤c∧(kB 153).C w A m l:=by
  have hl:=ho.1
  refine Kd.R_rowX (e:=145) (base:=lo) (d:=kB 153) ⟨fun _ _=>trivial,vs,ho,by show vs.length=l.length*1;omega,fun j p hj=>?_⟩
  have hlt:=(List.getElem?_eq_some_iff.1 hj).1
  have hp:rl l j=p:=by simp[rl,List.getD_eq_getElem?_getD,hj]
  have hr2:=hr j hlt
  rw[hp] at hr2
  refine⟨vr vs j,?_,?_⟩
  · have hjv:j<vs.length:=by omega
    have e:vr vs j=vs[j]:=by simp[vr,List.getD_eq_getElem?_getD,hjv]
    show (vs.drop (j*1)).take 1=_
    rw[e,Nat.mul_one,List.drop_eq_getElem_cons hjv]
    rfl
  · cases hv:(Value.slice A m c).ownBlock with
    | none=>exact Kd.R_mono hr2 (fun k hk=>⟨hk,by simp⟩)
    | some g=>
      obtain⟨cells,hc⟩:=own_typed ho g hv
      refine Kd.R_mono (Kd.R_types hr2 hc (by decide)) (fun k hk=>⟨hk.1,fun e=>hk.2 (Option.some.inj e)⟩)
theorem NX.reads (h:NX w lo n q v4 v7 v8) (k:NB n):NetR 153 w n q:=
  ⟨(Kd.R_rowX h.br).2.2,(Kd.R_rowX h.pa).2.2,(Kd.R_rowX h.pb).2.2,(own_readsB h.bufs h.row4).2.2,(Kd.R_rowX h.owners).2.2,(Kd.R_rowX h.turns).2.2,(own_readsB h.srcs h.row7).2.2,(own_readsB h.arrs h.row8).2.2,k.h1,k.h2,k.h3,k.h4,k.h5,k.h6,k.h7,k.h8,k.h9,k.h10,k.h11⟩
theorem own_cell {W:World} {base g m cap k:Nat} {vs:List Value} (h:W.ownsRow base 145 1 (.slice (some ⟨g,0,none⟩) m cap) m vs) (hk:k<m):W.cell? ⟨g,k,none⟩=some (vr vs k)∧W.frozen? ⟨g,k,none⟩=false:=by
  have hl:=h.1
  constructor
  · have hc:=h.cells (g:=g) rfl k (vr vs k) (vr_get (by omega))
    rwa [add_plain] at hc
  · obtain⟨cells,hc⟩:=own_typed h g rfl
    exact blk_frozen hc k
theorem NX.form4 (h:NX w lo n q v4 v7 v8) (h0:0<n.bufs.length):∃ g,q.a4=some ⟨g,0,none⟩∧lo≤g∧g<w.heap.size:=by
  obtain⟨g,cap,e,hb,hl⟩:=h.bufs.form h0
  injection e with e1 _ _
  exact⟨g,e1,hb,hl⟩
theorem NX.form7 (h:NX w lo n q v4 v7 v8) (h0:0<n.srcs.length):∃ g,q.a7=some ⟨g,0,none⟩∧lo≤g∧g<w.heap.size:=by
  obtain⟨g,cap,e,hb,hl⟩:=h.srcs.form h0
  injection e with e1 _ _
  exact⟨g,e1,hb,hl⟩
theorem NX.form8 (h:NX w lo n q v4 v7 v8) (h0:0<n.arrs.length):∃ g,q.a8=some ⟨g,0,none⟩∧lo≤g∧g<w.heap.size:=by
  obtain⟨g,cap,e,hb,hl⟩:=h.arrs.form h0
  injection e with e1 _ _
  exact⟨g,e1,hb,hl⟩
theorem rowI_form {W:World} {base:Nat} {A:Option Addr} {m c:Nat} {xs:List Int} (h:Kd.R (Kd.int .i64) 3 W base (fun _=>True) (.slice A m c) xs) (h0:0<xs.length):∃ g,A=some ⟨g,0,none⟩∧base≤g∧g<W.heap.size:=by
  obtain⟨inner,hin⟩:=Kd.R_own h
  obtain⟨g,cap,e,hb,hl⟩:=hin.form h0
  injection e with e1 _ _
  exact⟨g,e1,hb,hl⟩
end
def BT (w:World) (bx:Nat) (n:Net) (q:NA):Prop:=w.heap[bx]?=some (.cells (netCells n q) 42 (0,0))
section
variable {w w1:World} {bx:Nat} {n:Net} {q:NA}
theorem BT.box (h:BT w bx n q):Box w bx (netCells n q):=⟨blk_lt h,fun o=>blk_cell h o⟩
theorem BT.frozen (h:BT w bx n q) (o:Nat):w.frozen? ⟨bx,o,none⟩=false:=blk_frozen h o
theorem BT.lt (h:BT w bx n q):bx<w.heap.size:=blk_lt h
theorem BT.blk (h:BT w bx n q):BlkT w bx 42:=⟨_,h⟩
theorem BT.below (h:BT w bx n q) (hb:Below w.heap.size w w1):BT w1 bx n q:=blk_below h hb
theorem BT.far {g t:Nat} (h:BT w bx n q) (hb:BlkT w g t) (ht:42≠t) (j:Nat) (u:Value):BT (w.setCell ⟨g,j,none⟩ u) bx n q:=by
  obtain⟨c,hc⟩:=hb
  exact blk_far (p:=⟨g,j,none⟩) h (blk_ne h hc ht) u
theorem BT.grown {v:Value} {lo:Nat} {y:List Flit} (h:BT w bx n q) (hg:w.grownBy w1 v.ownBlock) (hr:kF.R 153 w lo (fun _=>True) v y):BT w1 bx n q:=by
  obtain⟨inner,hin⟩:=Kd.R_own hr
  exact blk_grown h hg (own_ne hin h (by decide))
theorem BT.new (w:World) (n:Net) (q:NA):BT (w.alloc (.cells (netCells n q) 42)) w.heap.size n q:=blk_new w _
theorem BT.eq {m:Net} (h:BT w bx n q) (e:netCells m q=netCells n q):BT w bx m q:=by unfold BT;rw[e];exact h
end
def Lit (e:Nat) (w:World) (g:Nat):Prop:=w.heap[g]?=some (.cells #[] e (0,0))
theorem lit_new {e g:Nat} {w:World} (h:g=w.heap.size):Lit e (w.alloc (.cells #[] e)) g:=by subst h;exact blk_new w _
theorem lit_alloc {e g:Nat} {w:World} (o:Obj) (h:Lit e w g):Lit e (w.alloc o) g:=blk_alloc h o
theorem lit_drew {e g:Nat} {w:World} (h:Lit e w g):Lit e w.drew g:=h
structure Stp (w w1:World):Prop where
  h:Below w.heap.size w w1
theorem lit_stp {e g:Nat} {w w1:World} (hs:Stp w w1) (h:Lit e w g):Lit e w1 g:=blk_below h hs.h
theorem R_lit {α:Type} (d:Kd α) {e g B:Nat} {w:World} (h:Lit e w g) (hB:B≤g):d.R e w B (fun _=>True) (.slice (some ⟨g,0,none⟩) 0 0) []:=by
  refine⟨fun _ _=>trivial,[],?_,Reps.none _ _⟩
  exact⟨by simp,.inr ⟨g,0,#[],rfl,hB,h,Nat.le_refl _,Nat.zero_le _,by simp,by simp⟩⟩
def At2 (g lo hi:Nat) (v:Value):Prop:=∀ k,v.ownBlock=some k→k=g∨(lo≤k∧k<hi)
theorem apart_of {u v:Value} {p r:Nat→Prop} (hu:∀ k,u.ownBlock=some k→p k) (hv:∀ k,v.ownBlock=some k→r k) (h:∀ k,p k→r k→False):Apart u v:=by
  cases e:u.ownBlock with
  | none=>exact .inl e
  | some k=>
    right
    rw[e]
    intro e2
    exact h k (hu k e) (hv k e2.symm)
section
variable {ops:Array Oper} {rest:List Oper} {o:Oper} {a:Act} {Q:Exit→Act→World→Prop} {Kc:Act→World→Prop} {α:Type}
theorem run_copy (d:Kd α) {B:Nat} {W:World} (t ty e:TypeId) (z:Value) (bytes:Nat)
    (ht:Tryz.prog.underlying t=some (.slice e)) (hinfo:(Tryz.prog.info? e).map (fun i=>(i.zero,i.size,i.bytes))=some (some z,d.sz,bytes)) (hz:z.cells.size=d.sz) (hs0:0<d.sz) (Ba:bytes≤1000)
    (hKM:∀ (w1:World) (b:Nat) (ok:Nat→Prop) x cs,d.K W x cs→d.M w1 b ok x cs) (hK1:∀ x cs,d.K W x cs→∀ u∈cs,u.oneCell'=true)
    (g:Nat) (ys:List α) (A:Option Addr) (m c:Nat) (HL:Lit e W g) (hg:B≤g) (HR:d.C W A m ys) (hB:B≤W.heap.size) (hl:m≤10000000) :
    ∃ v1 w1,(Builtin.append_ #[t,t] ty #[.slice (some ⟨g,0,none⟩) 0 0,.slice A m c]).run Tryz.prog W=.ok v1 w1∧d.R e w1 B (fun _=>True) v1 ys∧Below W.heap.size W w1∧At2 g W.heap.size w1.heap.size v1:=by
  obtain⟨i0,hi,hzz⟩:=Option.map_eq_some_iff.1 hinfo
  simp only[Prod.mk.injEq] at hzz
  obtain⟨hz0,Za,Zb⟩:=hzz
  have hm:ys.length=m:=HR.1
  have nothing:∀ (_:m=0),Src Tryz.prog i0.size t (.slice A m c) 0 [] W→∃ v1 w1,(Builtin.append_ #[t,t] ty #[.slice (some ⟨g,0,none⟩) 0 0,.slice A m c]).run Tryz.prog W=.ok v1 w1∧d.R e w1 B (fun _=>True) v1 ys∧Below W.heap.size W w1∧At2 g W.heap.size w1.heap.size v1:=by
    intro h0 hs
    obtain rfl:ys=[]:=List.eq_nil_of_length_eq_zero (hm.trans h0)
    exact⟨_,W,run_append_nothing W t t ty e i0 ht hi (some ⟨g,0,none⟩) 0 0 (Nat.le_refl _) _ hs,R_lit d HL hg,Below.refl _ _,fun k hk=>.inl (Option.some.inj hk).symm⟩
  rcases A with _|ad
  · have h0:m=0:=by
      rcases Nat.eq_zero_or_pos m with h0|h0
      · exact h0
      · obtain⟨ad,h,_⟩:=HR.2.2 h0
        cases h
    subst h0
    exact nothing rfl (Src.ofNil W ht c)
  · by_cases h0:m=0
    · subst h0
      exact nothing rfl (Src.ofSlice W ht ad 0 c [] (by simp) (fun j u h=>by simp at h) (fun u h=>by cases h))
    · obtain⟨news,hnr,hnc⟩:=ReadsRow.inner_ HR
      obtain⟨v1,w1,hrun,hown,hgr⟩:=run_append_arg_grows (P:=Tryz.prog) W t ty e i0 z d.sz bytes ht hi hz0 Za Zb hz hs0 ⟨g,0,none⟩ 0 0 [] (by simp) (fun j u h=>by simp at h) ad m c news (by rw[hnr.1,hm]) hnc (by omega) (by simp only[maxLen];omega) (by simp only[Nat.zero_add];exact Nat.le_trans (Nat.mul_le_mul hl Ba) (by omega))
      have hb:Below W.heap.size W w1:=⟨hgr.os,hgr.tape,hgr.output,hgr.size,fun i hi2=>hgr.block i hi2 (by simp)⟩
      rw[List.nil_append,Nat.zero_add] at hown
      refine⟨v1,w1,hrun,⟨fun _ _=>trivial,news,?_,hnr.imp_ (fun p cs hp=>hKM _ _ _ p cs hp)⟩,hb,fun k hk=>.inr ⟨own_base hown k hk,own_lt hown k hk⟩⟩
      rw[hm]
      exact own_weaken hown hB
theorem copy_row (d:Kd α) {B:Nat} {W:World} (hgd:o.guard=none) (s x:Operand) (t e:TypeId) (z:Value) (bytes:Nat)
    (ho:o.op=.call { callee:=.builtin .append,args:=#[s,x],argTypes:=#[t,t] })
    (ht:Tryz.prog.underlying t=some (.slice e)) (hinfo:(Tryz.prog.info? e).map (fun i=>(i.zero,i.size,i.bytes))=some (some z,d.sz,bytes)) (hz:z.cells.size=d.sz) (hs0:0<d.sz) (Ba:bytes≤1000)
    (hKM:∀ (w1:World) (b:Nat) (ok:Nat→Prop) x cs,d.K W x cs→d.M w1 b ok x cs) (hK1:∀ x cs,d.K W x cs→∀ u∈cs,u.oneCell'=true)
    (g:Nat) (ys:List α) (A:Option Addr) (m c:Nat) (hs:a.eval s=.slice (some ⟨g,0,none⟩) 0 0) (hx:a.eval x=.slice A m c)
    (HL:Lit e W g) (hg:B≤g) (HR:d.C W A m ys) (hB:B≤W.heap.size) (hl:m≤10000000)
    (h:∀ v1 w1,d.R e w1 B (fun _=>True) v1 ys→Below W.heap.size W w1→At2 g W.heap.size w1.heap.size v1→wpList Tryz.prog ops Q rest (a.put o.dst v1) w1):wpList Tryz.prog ops Q (o::rest) a W:=by
  obtain⟨v1,w1,hr1,h1,h2,h3⟩:=run_copy d t o.type e z bytes ht hinfo hz hs0 Ba hKM hK1 g ys A m c HL hg HR hB hl
  refine wpList_plain hgd fun K hK=>?_
  unfold Oper.wp execOp
  simp only[ho,resolve,invoke,builtin,Sem.run_bind,Sem.run_pure,Result.andThen_ok,List.map_toArray,List.map_cons,List.map_nil,hs,hx,hr1]
  exact hK _ _ (h v1 w1 h1 h2 h3)
theorem copy_row_step (d:Kd α) {B:Nat} {W:World} {Q':Exit→Act→World→Prop} {E:Prop} (hw:Region.wanted o (yielded ops a.tmps)=true) (s x:Operand) (t e:TypeId) (z:Value) (bytes:Nat)
    (ho:o.op=.call { callee:=.builtin .append,args:=#[s,x],argTypes:=#[t,t] })
    (ht:Tryz.prog.underlying t=some (.slice e)) (hinfo:(Tryz.prog.info? e).map (fun i=>(i.zero,i.size,i.bytes))=some (some z,d.sz,bytes)) (hz:z.cells.size=d.sz) (hs0:0<d.sz) (Ba:bytes≤1000)
    (hKM:∀ (w1:World) (b:Nat) (ok:Nat→Prop) x cs,d.K W x cs→d.M w1 b ok x cs) (hK1:∀ x cs,d.K W x cs→∀ u∈cs,u.oneCell'=true)
    (g:Nat) (ys:List α) (A:Option Addr) (m c:Nat) (hs:a.eval s=.slice (some ⟨g,0,none⟩) 0 0) (hx:a.eval x=.slice A m c)
    (HL:Lit e W g) (hg:B≤g) (HR:d.C W A m ys) (hB:B≤W.heap.size) (hl:m≤10000000)
    (h:∀ v1 w1,d.R e w1 B (fun _=>True) v1 ys→Below W.heap.size W w1→At2 g W.heap.size w1.heap.size v1→Kc (a.put o.dst v1) w1):if Region.wanted o (yielded ops a.tmps)=true then Oper.wp Tryz.prog o a W Kc Q' else E:=by
  obtain⟨v1,w1,hr1,h1,h2,h3⟩:=run_copy d t o.type e z bytes ht hinfo hz hs0 Ba hKM hK1 g ys A m c HL hg HR hB hl
  rw[if_pos hw]
  unfold Oper.wp execOp
  simp only[ho,resolve,invoke,builtin,Sem.run_bind,Sem.run_pure,Result.andThen_ok,List.map_toArray,List.map_cons,List.map_nil,hs,hx,hr1]
  exact h v1 w1 h1 h2 h3
theorem KM_int {W:World}:∀ (w1:World) (b:Nat) (ok:Nat→Prop) (x:Int) cs,(Kd.int .i64).K W x cs→(Kd.int .i64).M w1 b ok x cs:=fun _ _ _ _ _ h=>h
theorem K1_int {W:World}:∀ (x:Int) cs,(Kd.int .i64).K W x cs→∀ u∈cs,u.oneCell'=true:=fun _ _ h=>(Kd.int .i64).K_one h
theorem KM_F {W:World}:∀ (w1:World) (b:Nat) (ok:Nat→Prop) (x:Flit) cs,kF.K W x cs→kF.M w1 b ok x cs:=fun _ _ _ _ _ h=>h
theorem K1_F {W:World}:∀ (x:Flit) cs,kF.K W x cs→∀ u∈cs,u.oneCell'=true:=fun _ _ h=>kF.K_one h
theorem copy_int {B:Nat} {W:World} (hgd:o.guard=none) (s x:Operand)
    (ho:o.op=.call { callee:=.builtin .append,args:=#[s,x],argTypes:=#[26,26] })
    (g:Nat) (ys:List Int) (A:Option Addr) (c:Nat) (hs:a.eval s=.slice (some ⟨g,0,none⟩) 0 0) (hx:a.eval x=.slice A ys.length c)
    (HL:Lit 3 W g) (hg:B≤g) (HR:(Kd.int .i64).C W A ys.length ys) (hB:B≤W.heap.size) (hl:ys.length≤10000000)
    (h:∀ v1 w1,(Kd.int .i64).R 3 w1 B (fun _=>True) v1 ys→Below W.heap.size W w1→At2 g W.heap.size w1.heap.size v1→wpList Tryz.prog ops Q rest (a.put o.dst v1) w1):wpList Tryz.prog ops Q (o::rest) a W:=
  copy_row (Kd.int .i64) hgd s x 26 3 (.int .i64 0) 8 ho Tryz.underlying26 info_int rfl (by decide) (by omega) KM_int K1_int g ys A ys.length c hs hx HL hg HR hB hl h
theorem copyS_int {B:Nat} {W:World} {Q':Exit→Act→World→Prop} {E:Prop} (hw:Region.wanted o (yielded ops a.tmps)=true) (s x:Operand)
    (ho:o.op=.call { callee:=.builtin .append,args:=#[s,x],argTypes:=#[26,26] })
    (g:Nat) (ys:List Int) (A:Option Addr) (c:Nat) (hs:a.eval s=.slice (some ⟨g,0,none⟩) 0 0) (hx:a.eval x=.slice A ys.length c)
    (HL:Lit 3 W g) (hg:B≤g) (HR:(Kd.int .i64).C W A ys.length ys) (hB:B≤W.heap.size) (hl:ys.length≤10000000)
    (h:∀ v1 w1,(Kd.int .i64).R 3 w1 B (fun _=>True) v1 ys→Below W.heap.size W w1→At2 g W.heap.size w1.heap.size v1→Kc (a.put o.dst v1) w1):if Region.wanted o (yielded ops a.tmps)=true then Oper.wp Tryz.prog o a W Kc Q' else E:=
  copy_row_step (Kd.int .i64) hw s x 26 3 (.int .i64 0) 8 ho Tryz.underlying26 info_int rfl (by decide) (by omega) KM_int K1_int g ys A ys.length c hs hx HL hg HR hB hl h
theorem copy_F {B:Nat} {W:World} (hgd:o.guard=none) (s x:Operand)
    (ho:o.op=.call { callee:=.builtin .append,args:=#[s,x],argTypes:=#[145,145] })
    (g:Nat) (ys:List Flit) (A:Option Addr) (c:Nat) (hs:a.eval s=.slice (some ⟨g,0,none⟩) 0 0) (hx:a.eval x=.slice A ys.length c)
    (HL:Lit 153 W g) (hg:B≤g) (HR:kF.C W A ys.length ys) (hB:B≤W.heap.size) (hl:ys.length≤10000000)
    (h:∀ v1 w1,kF.R 153 w1 B (fun _=>True) v1 ys→Below W.heap.size W w1→At2 g W.heap.size w1.heap.size v1→wpList Tryz.prog ops Q rest (a.put o.dst v1) w1):wpList Tryz.prog ops Q (o::rest) a W:=
  copy_row kF hgd s x 145 153 (.agg #[.int .i64 0,.int .i64 0,.int .i64 0,.bool false,.bool false]) 32 ho Tryz.underlying145 info_F rfl (by decide) (by omega) KM_F K1_F g ys A ys.length c hs hx HL hg HR hB hl h
theorem copyS_F {B:Nat} {W:World} {Q':Exit→Act→World→Prop} {E:Prop} (hw:Region.wanted o (yielded ops a.tmps)=true) (s x:Operand)
    (ho:o.op=.call { callee:=.builtin .append,args:=#[s,x],argTypes:=#[145,145] })
    (g:Nat) (ys:List Flit) (A:Option Addr) (c:Nat) (hs:a.eval s=.slice (some ⟨g,0,none⟩) 0 0) (hx:a.eval x=.slice A ys.length c)
    (HL:Lit 153 W g) (hg:B≤g) (HR:kF.C W A ys.length ys) (hB:B≤W.heap.size) (hl:ys.length≤10000000)
    (h:∀ v1 w1,kF.R 153 w1 B (fun _=>True) v1 ys→Below W.heap.size W w1→At2 g W.heap.size w1.heap.size v1→Kc (a.put o.dst v1) w1):if Region.wanted o (yielded ops a.tmps)=true then Oper.wp Tryz.prog o a W Kc Q' else E:=
  copy_row_step kF hw s x 145 153 (.agg #[.int .i64 0,.int .i64 0,.int .i64 0,.bool false,.bool false]) 32 ho Tryz.underlying145 info_F rfl (by decide) (by omega) KM_F K1_F g ys A ys.length c hs hx HL hg HR hB hl h
end
end Go.Proofs.YtodbglncccgdbaaGreat
