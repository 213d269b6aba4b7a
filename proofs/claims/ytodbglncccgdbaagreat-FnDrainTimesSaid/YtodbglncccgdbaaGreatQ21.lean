/- Lemmas for laws of this seat, for all inputs: Wh4 At Ds Sq Dn DrP NwI Dv DvI. -/
import Derived.Test.YtodbglncccgdbaaGreatQ19
import Derived.Test.YtodbglncccgdbaaGreatQ18
import Derived.Test.YtodbglncccgdbaaGreatQ20
import Derived.Test.YtodbglncccgdbaaGreatQ6
import Derived.Test.YtodbglncccgdbaaGreatQ15
import Derived.Test.YtodbglncccgdbaaGreatQ8
import Derived.Test.YtodbglncccgdbaaGreatQ3
import Derived.Test.YtodbglncccgdbaaGreatQ17
set_option linter.unusedVariables false
set_option linter.unusedSimpArgs false
namespace NoC
theorem run_prefix:∀ (l r:List Flit) (s t:FS),runF s (l++r)=some t→∃ s',runF s l=some s':=by
  intro l
  induction l with
  | nil=>intro r s t _;exact⟨s,rfl⟩
  | cons f l ih=>
    intro r s t h
    rw[List.cons_append] at h
    obtain⟨h1,h2⟩:=run_cons h
    obtain⟨s',h3⟩:=ih r _ _ h2
    exact⟨s',by simp only[runF,h1];exact h3⟩
def stA (l:List Flit) (k:Nat):FS:=if trimTo l k=k then none else some (fid (rf l (trimTo l k:Nat)))
theorem takeF_next (l:List Flit) {k:Nat} (h:k<l.length):l.take (k+1)=l.take k++[rf l k]:=by
  rw[List.take_succ_eq_append_getElem h,rf_get l k h]
theorem stream_at {l:List Flit} {s0:FS} (h:runF none l=some s0):∀ k:Nat,k≤l.length→runF none (l.take k)=some (stA l k)∧∀ j:Nat,j<k→(rf l j).head=decide (trimTo l j=j)∧fid (rf l j)=fid (rf l (trimTo l j:Nat)):=by
  intro k
  induction k with
  | zero=>intro _;exact⟨by simp[stA,trimTo,runF],fun j hj=>by omega⟩
  | succ k ih=>
    intro hk
    obtain⟨h1,h2⟩:=ih (by omega)
    have hpre:∃ s',runF none (l.take (k+1))=some s':=by
      rw[←List.take_append_drop (k+1) l] at h
      exact run_prefix _ _ _ _ h
    obtain⟨s',h3⟩:=hpre
    have h4:=h3
    rw[takeF_next l (by omega),run_snoc _ _ _ _ h1] at h4
    have e:=nx_aft h4
    subst e
    have hle:=trimTo_le l k
    have hf:(rf l k).head=decide (trimTo l k=k)∧fid (rf l k)=fid (rf l (trimTo l k:Nat)):=by
      unfold stA at h4
      by_cases et:trimTo l k=k
      · rw[if_pos et] at h4
        refine⟨?_,by rw[et]⟩
        cases hh:(rf l k).head
        · have:=nx_body h4 hh
          cases this
        · simp[et]
      · rw[if_neg et] at h4
        cases hh:(rf l k).head
        · have:=nx_body h4 hh
          exact⟨by simp[et],(Option.some.inj this).symm⟩
        · have:=nx_head h4 hh
          cases this
    refine⟨?_,fun j hj=>?_⟩
    · rw[h3]
      unfold aft stA
      rw[trimTo]
      cases ht:(rf l k).tail
      · simp only[Bool.false_eq_true,if_false]
        rw[if_neg (by omega),hf.2]
      · simp
    · rcases Nat.lt_or_ge j k with h5|h5
      · exact h2 j h5
      · obtain rfl:j=k:=by omega
        exact hf
theorem trim_mid {l:List Flit}:∀ (k j:Nat),trimTo l k≤j→j≤k→trimTo l j=trimTo l k∧(j<k→(rf l j).tail=false):=by
  intro k
  induction k with
  | zero=>intro j h1 h2;obtain rfl:j=0:=(by omega);exact⟨rfl,fun h=>absurd h (by omega)⟩
  | succ k ih=>
    intro j h1 h2
    rw[trimTo] at h1 ⊢
    cases ht:(rf l k).tail
    · rw[ht] at h1
      simp only[Bool.false_eq_true,if_false] at h1 ⊢
      rcases Nat.lt_or_ge j (k+1) with h3|h3
      · obtain⟨i1,i2⟩:=ih j h1 (by omega)
        refine⟨i1,fun _=>?_⟩
        rcases Nat.lt_or_ge j k with h4|h4
        · exact i2 h4
        · obtain rfl:j=k:=by omega
          exact ht
      · obtain rfl:j=k+1:=by omega
        refine⟨?_,fun h=>by omega⟩
        rw[trimTo,ht];simp
    · rw[ht] at h1
      simp only[if_true] at h1 ⊢
      obtain rfl:j=k+1:=by omega
      refine⟨?_,fun h=>by omega⟩
      rw[trimTo,ht];simp
def tailsTo (l:List Flit):Nat→Nat
  | 0=>0
  | k+1=>tailsTo l k+(if (rf l k).tail=true then 1 else 0)
theorem wp_stream {l:List Flit} {s0:FS} (h:runF none l=some s0):∀ k:Nat,k≤l.length→(wpAt l k).2=trimTo l k∧(wpAt l k).1.length=tailsTo l k:=by
 intro k
 induction k with
 | zero=>intro _;exact⟨rfl,rfl⟩
 | succ k ih=>
  intro hk
  obtain⟨i1,i2⟩:=ih (by omega)
  have hS:=(stream_at h l.length (Nat.le_refl _)).2
  have hle:=trimTo_le l k
  obtain⟨t,et⟩:∃ t,trimTo l k=t:=⟨_,rfl⟩
  rw[et] at i1 hle
  have hw:wpAt l k=((wpAt l k).1,t):=by rw[←i1]
  have hlen:((l.take (k+1)).drop t).length=k+1 - t:=by rw[List.length_drop,List.length_take];omega
  cases ht:(rf l k).tail
  ·have hno:wholeF ((l.take (k+1)).drop t)=false:=by
    refine wholeF_miss (k:=k - t) (by omega) ?_
    unfold isW
    rw[rf_mid (by omega) (by omega),show t+(k - t)=k by omega,ht]
    have:k - t+1=((l.take (k+1)).drop t).length:=by omega
    simp[this]
   rw[wpAt_no hw hno,trimTo,tailsTo,ht,et]
   simp[i2]
  ·have hyes:wholeF ((l.take (k+1)).drop t)=true:=by
    refine wholeF_all (by omega) ?_
    have:∀ j:Nat,j≤k+1 - t→wholeTo ((l.take (k+1)).drop t) j=true:=by
     intro j
     induction j with
     | zero=>intro _;rfl
     | succ j ihj=>
      intro hj
      simp only[wholeTo,Bool.and_eq_true]
      refine⟨ihj (by omega),?_⟩
      obtain⟨m1,m2⟩:=trim_mid (l:=l) k (t+j) (by omega) (by omega)
      obtain⟨f1,f2⟩:=hS (t+j) (by omega)
      rw[m1,et] at f1 f2
      have e0:rf ((l.take (k+1)).drop t) (0:Int)=rf l (t:Int):=by
       have:=rf_mid (l:=l) (f:=t) (k:=k+1) (j:=0) (by omega) (by omega)
       simpa using this
      unfold isW
      rw[rf_mid (by omega) (by omega),e0,f1,hlen]
      unfold fid at f2
      simp only[Prod.mk.injEq] at f2
      have h5:((t=t+j)↔(j=0)):=by omega
      have h6:(rf l ((t+j:Nat):Int)).tail=decide (j+1=k+1 - t):=by
       rcases Nat.lt_or_ge (t+j) k with h7|h7
       ·rw[m2 h7];symm;simp;omega
       ·rw[show t+j=k by omega,ht];symm;simp;omega
      rw[h6]
      rw[f2.1,f2.2.1,f2.2.2]
      simp[h5]
    rw[hlen]
    exact this _ (Nat.le_refl _)
   rw[wpAt_yes hw hyes,trimTo,tailsTo,ht]
   simp[i2]
theorem take_tails {l:List Flit} {k:Nat}:∀ j:Nat,j≤k→tailsTo (l.take k) j=tailsTo l j∧trimTo (l.take k) j=trimTo l j:=by
  intro j
  induction j with
  | zero=>intro _;exact⟨rfl,rfl⟩
  | succ j ih=>
    intro hj
    obtain⟨i1,i2⟩:=ih (by omega)
    have e:rf (l.take k) (j:Int)=rf l (j:Int):=by
      unfold rf
      simp only[Int.toNat_natCast,List.getD_eq_getElem?_getD,List.getElem?_take]
      rw[if_pos (by omega)]
    exact⟨by rw[tailsTo,tailsTo,i1,e],by rw[trimTo,trimTo,i2,e]⟩
theorem trim_idem (l:List Flit):∀ k:Nat,trimTo l (trimTo l k)=trimTo l k:=by
  intro k
  induction k with
  | zero=>rfl
  | succ k ih=>
    cases ht:(rf l k).tail
    · have e:trimTo l (k+1)=trimTo l k:=by rw[trimTo,ht];simp
      rw[e];exact ih
    · have e:trimTo l (k+1)=k+1:=by rw[trimTo,ht];simp
      rw[e,e]
end NoC
namespace Go.Proofs.YtodbglncccgdbaaGreat
open Go.RowKit Go.Proofs.YtodbglncccgdbaaGreatW.PrintWords
open NoC
def Has (n:Net) (f:Flit):Prop:=(∃ b:Int,0≤b∧b<(n.bufs.length:Int)∧f∈rl n.bufs b)∨(∃ a:Int,0≤a∧a<(n.srcs.length:Int)∧f∈rl n.srcs a)∨(0≤f.dst∧f∈rl n.arrs f.dst)
theorem has_step {n:Net} (ok:netOk n=true) (hE:WE n) {f:Flit} (h:Has n f):Has (stepN n) f:=by
  have L:=step_lens n
  rcases h with ⟨b,b0,b1,hf⟩|⟨a,a0,a1,hf⟩|⟨d0,hf⟩
  · rcases mem_row ok b0 hf with h1|⟨g,hg,e1,e2⟩
    · exact .inl ⟨b,b0,by rw[L.b];exact b1,h1⟩
    · have hw:=grant_gw ok hE hg
      rw[e2] at hw
      by_cases h4:g.port=4
      · right;right
        have hd:=hw.here ok h4
        have h0:=(isNode_iff.1 hw.one.nd).1
        rw[hd] at h0
        refine⟨h0,?_⟩
        rw[step_arr ok h0]
        exact List.mem_append.2 (.inr (mem_gotA.2 ⟨g,hg,h4,hd,e2⟩))
      · left
        obtain⟨t0,t1,_⟩:=hw.one.to ok h4
        refine⟨gTo n g,t0,by rw[L.b];exact t1,?_⟩
        rw[step_row ok t0]
        simp only[List.append_assoc,List.mem_append]
        exact .inr (.inl (mem_gotG.2 ⟨g,hg,h4,rfl,e2⟩))
  · have hs:=step_src ok a0
    by_cases h:a∈enteringN n
    · rw[if_pos h] at hs
      cases el:rl n.srcs a with
      | nil=>rw[el] at hf;cases hf
      | cons x r=>
        rw[el] at hf hs
        rcases List.mem_cons.1 hf with h1|h1
        · left
          obtain⟨d1,d2,d3,d4,d5,d6⟩:=eTo_div ok h
          obtain⟨i,_,hi,hl,e1,e2,e3⟩:=enter_in ok a h
          refine⟨eTo n a,d6,by rw[L.b];exact e3,?_⟩
          rw[step_row ok d6]
          simp only[List.append_assoc,List.mem_append]
          exact .inr (.inr (mem_gotE.2 ⟨a,h,rfl,by rw[el,h1];rfl⟩))
        · exact .inr (.inl ⟨a,a0,by rw[L.s];exact a1,by rw[hs];exact h1⟩)
    · rw[if_neg h] at hs
      exact .inr (.inl ⟨a,a0,by rw[L.s];exact a1,by rw[hs];exact hf⟩)
  · right;right
    exact⟨d0,by rw[step_arr ok d0];exact List.mem_append.2 (.inl hf)⟩
theorem has_run {n:Net} (ok:netOk n=true) (hE:WE n) {f:Flit} (h:Has n f):∀ k:Nat,n.time+k≤1000000→Has (runN n k) f:=by
  intro k
  induction k with
  | zero=>intro _;exact h
  | succ k ih=>
    intro hk
    exact has_step (runN_ok ok k (by omega)) (WE_run ok hE k (by omega)) (ih (by omega))
theorem has_idle {n:Net} {f:Flit} (h:Has n f) (hi:idleN n=true):0≤f.dst∧f∈rl n.arrs f.dst:=by
  simp only[idleN,Bool.and_eq_true,decide_eq_true_eq] at hi
  rcases h with ⟨b,b0,b1,hf⟩|⟨a,a0,a1,hf⟩|h
  · have:=rl_len0 hi.1 b0 b1
    have:=List.length_pos_of_mem hf
    omega
  · have:=rl_len0 hi.2 a0 a1
    have:=List.length_pos_of_mem hf
    omega
  · exact h
theorem wp_ids {l:List Flit} {s0:FS} (h:runF none l=some s0):∀ k:Nat,k≤l.length→(wpAt l k).1=((l.take k).filter (fun f=>f.tail)).map (fun f=>f.pk):=by
  intro k
  induction k with
  | zero=>intro _;rfl
  | succ k ih=>
    intro hk
    have i0:=ih (by omega)
    obtain⟨a1,a2⟩:=wp_stream h k (by omega)
    obtain⟨b1,b2⟩:=wp_stream h (k+1) hk
    have hle:=trimTo_le l k
    rw[takeF_next l (by omega),List.filter_append,List.map_append,←i0]
    rw[tailsTo] at b2
    rw[trimTo] at b1
    cases ht:(rf l k).tail
    · rw[ht] at b2
      simp only[Bool.false_eq_true,if_false,Nat.add_zero] at b2
      by_cases hw:wholeF ((l.take (k+1)).drop (wpAt l k).2)=true
      · rw[wpAt,if_pos hw] at b2
        simp only[List.length_append,List.length_singleton] at b2
        omega
      · rw[wpAt,if_neg hw]
        simp[ht]
    · rw[ht] at b2
      simp only[if_true] at b2
      by_cases hw:wholeF ((l.take (k+1)).drop (wpAt l k).2)=true
      · rw[wpAt,if_pos hw]
        have:=wpAt_same (l:=l) (k:=k) (f:=(wpAt l k).2) (by omega) (by omega) hw
        simp[ht,←this]
      · rw[wpAt,if_neg hw] at b2
        omega
theorem trim_tails (l:List Flit):∀ k:Nat,k≤l.length→(l.take (trimTo l k)).filter (fun f=>f.tail)=(l.take k).filter (fun f=>f.tail):=by
  intro k
  induction k with
  | zero=>intro _;rfl
  | succ k ih=>
    intro hk
    rw[trimTo]
    cases ht:(rf l k).tail
    · rw[if_neg (by simp),ih (by omega),takeF_next l (by omega),List.filter_append]
      simp[ht]
    · rw[if_pos rfl]
theorem whole_ids {l:List Flit} {s0:FS} (h:runF none l=some s0):wholeP (trimF l)=(l.filter (fun f=>f.tail)).map (fun f=>f.pk):=by
  have hle:=trimTo_le l l.length
  have hl:(trimF l).length=trimTo l l.length:=by unfold trimF;rw[List.length_take];omega
  have hr:runF none (trimF l)=some (stA l (trimTo l l.length)):=(stream_at h _ hle).1
  obtain⟨w1,w2⟩:=wp_stream hr (trimF l).length (Nat.le_refl _)
  have e1:trimTo (trimF l) (trimF l).length=(trimF l).length:=by
    rw[hl]
    unfold trimF
    rw[(take_tails (l:=l) (k:=trimTo l l.length) _ (Nat.le_refl _)).2,trim_idem]
  rw[e1] at w1
  have hn:¬ (wpAt (trimF l) (trimF l).length).2<(trimF l).length:=by omega
  obtain⟨a,b⟩:=wholeP_yes (l:=trimF l) (ids:=(wpAt (trimF l) (trimF l).length).1) (f:=(wpAt (trimF l) (trimF l).length).2) rfl hn
  rw[a,wp_ids hr _ (Nat.le_refl _),List.take_length]
  unfold trimF
  rw[trim_tails l _ (Nat.le_refl _),List.take_length]
theorem arr_ids {n:Net} (hE:WE n) {a c:Int} (a0:0≤a) (a1:a<(n.arrs.length:Int)):wholeP (arrF n a c)=((clsOnly (rl n.arrs a) c).filter (fun f=>f.tail)).map (fun f=>f.pk):=by
  obtain⟨so,si,ss,sa,hwi,hwx⟩:=hE
  exact whole_ids (hwi.arr a c a0 a1)
theorem miss_none {n:Net} {l:List Packet} (hE:WE n) (h:∀ j:Nat,j<l.length→0≤(rp l j).dst∧(rp l j).dst<(n.arrs.length:Int)∧∃ f∈rl n.arrs (rp l j).dst,f.tail=true∧f.cls=(rp l j).cls∧f.pk=(rp l j).id):missN n l=[]:=by
  have h2:missTo n l l.length=[]:=by
    unfold missTo
    rw[List.map_eq_nil_iff,List.filter_eq_nil_iff]
    intro j hj
    obtain⟨d0,d1,f,hf,e1,e2,e3⟩:=h j (List.mem_range.1 hj)
    have:has (wholeP (arrF n (rp l j).dst (rp l j).cls)) (rp l j).id=true:=by
      unfold has
      rw[List.contains_iff_mem,arr_ids hE d0 d1]
      refine List.mem_map.2 ⟨f,List.mem_filter.2 ⟨?_,e1⟩,e3⟩
      unfold clsOnly
      exact List.mem_filter.2 ⟨hf,by rw[e2];simp⟩
    rw[this];simp
  unfold missN
  split
  · exact h2
  · rfl
end Go.Proofs.YtodbglncccgdbaaGreat
namespace Go.Proofs.YtodbglncccgdbaaGreat
open NoC
def d1 (g:Grid) (a b:Int):Nat:=(a % g.w - b % g.w).natAbs+(a / g.w - b / g.w).natAbs
def dsB (g:Grid) (r u d:Int):Bool:=
  !(isNode g u && isNode g d) || (Nat.ble (d1 g u d) 6 && (u == d || Nat.beq (d1 g (nextNode g u (stdPort g r u d)) d+1) (d1 g u d)))
def dsAll:Bool:=allI 4 fun w=>allI 4 fun h=>allI 3 fun r=>allI 16 fun u=>allI 16 fun d=>dsB ⟨(w:Int)+1,(h:Int)+1⟩ ((r:Int)+1) (u:Int) (d:Int)
set_option maxRecDepth 100000 in
theorem ds_all:dsAll=true:=by decide +kernel
theorem ds_at {g:Grid} {r u d:Int} (r1:1≤r) (r3:r≤3) (hu:isNode g u=true) (hd:isNode g d=true):d1 g u d≤6∧(u≠d→d1 g (nextNode g u (stdPort g r u d)) d+1=d1 g u d):=by
  obtain⟨hg,u0,u1⟩:=isNode_ok hu
  obtain⟨_,d0,d2⟩:=isNode_ok hd
  obtain⟨w,h,hw,hh,rfl⟩:=grid_cases hg
  have h0:=ds_all
  unfold dsAll at h0
  have:=allI_iff.1 (allI_iff.1 (allI_iff.1 (allI_iff.1 (allI_iff.1 h0 w hw) h hh) (r - 1).toNat (by omega)) u.toNat (by omega)) d.toNat (by omega)
  rw[Int.toNat_of_nonneg u0,Int.toNat_of_nonneg d0,Int.toNat_of_nonneg (by omega),show r - 1+1=r by omega] at this
  unfold dsB at this
  rw[hu,hd] at this
  simp only[Bool.and_self,Bool.not_true,Bool.false_or,Bool.and_eq_true,Bool.or_eq_true] at this
  refine⟨Nat.ble_eq.mp this.1,fun hne=>?_⟩
  rcases this.2 with h1|h1
  · exact absurd (beq_iff_eq.1 h1) hne
  · exact Nat.eq_of_beq_eq_true h1
theorem std_walk {g:Grid} {r:Int} (hg:1≤g.w∧g.w≤4∧1≤g.h∧g.h≤4) (r1:1≤r) (r3:r≤3) {d:Int} (hd:isNode g d=true):∀ (k:Nat) {u:Int},isNode g u=true→d1 g u d≤k→(walk ⟨g,[]⟩ (makeT g r) u d).length≤k:=by
  have ht:=make_ok hg.1 hg.2.1 hg.2.2.1 hg.2.2.2 r1 (by omega:r≤4)
  intro k
  induction k with
  | zero=>
    intro u hu hk
    by_cases e:u=d
    · subst e
      rw[(hop_end (m:=⟨g,[]⟩) ht hu).2];simp
    · have:=(ds_at r1 r3 hu hd).2 e;omega
  | succ k ih=>
    intro u hu hk
    by_cases e:u=d
    · subst e
      rw[(hop_end (m:=⟨g,[]⟩) ht hu).2];simp
    · have h1:=(ds_at r1 r3 hu hd).2 e
      have hn:=(hop (m:=⟨g,[]⟩) ht hu hd e).nd
      rw[hop_len (m:=⟨g,[]⟩) ht hu hd e]
      rw[makeT_at hu hd] at hn ⊢
      have:=ih hn (by show d1 g (nextNode g u (stdPort g r u d)) d≤k;omega)
      exact Nat.succ_le_succ this
theorem std_six {g:Grid} {r:Int} (hg:1≤g.w∧g.w≤4∧1≤g.h∧g.h≤4) (r1:1≤r) (r3:r≤3) {u d:Int} (hu:isNode g u=true) (hd:isNode g d=true):(walk ⟨g,[]⟩ (makeT g r) u d).length≤6:=
  std_walk hg r1 r3 hd 6 hu (ds_at r1 r3 hu hd).1
end Go.Proofs.YtodbglncccgdbaaGreat
namespace Go.Proofs.YtodbglncccgdbaaGreat
open Go.RowKit Go.Proofs.YtodbglncccgdbaaGreatW.PrintWords
open NoC
theorem snd_sent {g:Grid} {n:Net} {l:List Packet} (hm:n.mesh.g=g) (h0:∀ a,(rl n.srcs a).length=0) (hl:l.length≤6) (hp:∀ j:Nat,j<l.length→packetOk g (rp l j)=true) (k:Nat) (hk:k<l.length):sendOk (sndTo n l k) (rp l k)=true:=by
  have h1:=snd_room n l h0 k (rp l k).src (by
    obtain⟨h,_⟩:=packet_parts (hp k (by omega))
    exact(isNode_iff.1 h).1)
  obtain⟨_,_,_,_,h5,h6⟩:=packet_parts (hp k (by omega))
  unfold sendOk
  rw[snd_mesh,hm,hp k (by omega),decide_eq_true (by omega)];rfl
theorem snd_len (n:Net) (l:List Packet):∀ k,(sndTo n l k).srcs.length=n.srcs.length:=by
  intro k
  induction k with
  | zero=>rfl
  | succ k ih=>
    show (sndN (sndTo n l k) (rp l k)).srcs.length=_
    unfold sndN
    split
    · show ((sndTo n l k).srcs.set _ _).length=_
      rw[List.length_set,ih]
    · exact ih
theorem flits_at {p:Packet} {i:Nat} (h:i<p.len.toNat):rf (flitsTo p p.len.toNat) (i:Int)=flitAt p i:=by
  unfold rf flitsTo
  simp[List.getD_eq_getElem?_getD,h]
theorem snd_pos {g:Grid} {n:Net} {l:List Packet} (hm:n.mesh.g=g) (h0:∀ a,(rl n.srcs a).length=0) (hl:l.length≤6) (hp:∀ j:Nat,j<l.length→packetOk g (rp l j)=true) (hs:∀ a:Int,isNode g a=true→a<(n.srcs.length:Int)) :
    ∀ k:Nat,k≤l.length→∀ j:Nat,j<k→∃ i:Nat,(rp l j).len.toNat≤i+1∧i<(rl (sndTo n l k).srcs (rp l j).src).length∧rf (rl (sndTo n l k).srcs (rp l j).src) (i:Int)=flitAt (rp l j) ((rp l j).len.toNat - 1):=by
  intro k
  induction k with
  | zero=>intro _ j hj;omega
  | succ k ih=>
    intro hk j hj
    have hsd:=snd_sent hm h0 hl hp k (by omega)
    have hpk:=hp k (by omega)
    obtain⟨hn,_,_,_,h5,h6⟩:=packet_parts hpk
    have hn0:=(isNode_iff.1 hn).1
    have hn1:=hs _ hn
    have e:(sndTo n l (k+1)).srcs=(sndTo n l k).srcs.set (rp l k).src.toNat (rl (sndTo n l k).srcs (rp l k).src++flitsTo (rp l k) (rp l k).len.toNat):=by
      show (sndN (sndTo n l k) (rp l k)).srcs=_
      unfold sndN
      rw[if_pos hsd]
      show (sndTo n l k).srcs.set _ _=_
      rw[snd_mesh,hm,flitsOf_yes hpk]
    have hjn:=(isNode_iff.1 (packet_parts (hp j (by omega))).1).1
    rw[e,rl_set _ _ _ _ hjn]
    have hL:=snd_len n l k
    rcases Nat.lt_or_ge j k with h1|h1
    · obtain⟨i,i1,i2,i3⟩:=ih (by omega) j h1
      split
      · rename_i hc
        have es:(rp l k).src=(rp l j).src:=by omega
        rw[es]
        refine⟨i,i1,by rw[List.length_append];omega,?_⟩
        rw[←i3]
        unfold rf
        simp only[Int.toNat_natCast,List.getD_eq_getElem?_getD]
        rw[List.getElem?_append_left i2]
      · exact⟨i,i1,i2,i3⟩
    · obtain rfl:j=k:=by omega
      rw[if_pos ⟨by omega,by omega⟩]
      refine⟨(rl (sndTo n l j).srcs (rp l j).src).length+((rp l j).len.toNat - 1),by omega,by rw[List.length_append,flitsTo_len];omega,?_⟩
      rw[←flits_at (p:=rp l j) (i:=(rp l j).len.toNat - 1) (by omega)]
      unfold rf
      simp only[Int.toNat_natCast,List.getD_eq_getElem?_getD]
      rw[List.getElem?_append_right (by omega),Nat.add_sub_cancel_left]
def cost (m:Mesh) (pa pb:List Int) (p:Packet):Nat:=p.len.toNat*((walk m (tabOf pa pb p.cls) p.src p.dst).length+2)
def costTo (m:Mesh) (pa pb:List Int) (l:List Packet):Nat→Nat
  | 0=>0
  | k+1=>costTo m pa pb l k+cost m pa pb (rp l k)
theorem wF_flits (ω:Flit→Nat) (c:Nat) (p:Packet) (h:∀ i:Nat,ω (flitAt p i)=c):∀ k:Nat,wF ω (flitsTo p k)=k*c:=by
  intro k
  induction k with
  | zero=>simp[flitsTo,wF]
  | succ k ih=>rw[flitsTo_succ,wF_app,wF_one,ih,h,Nat.succ_mul]
theorem snd_cost {g:Grid} {n:Net} {l:List Packet} (σ:Int→Flit→Nat) (hσ:∀ p:Packet,∀ i:Nat,σ p.src (flitAt p i)=(walk n.mesh (tabOf n.pa n.pb p.cls) p.src p.dst).length+2) (hm:n.mesh.g=g) (h0:∀ a,(rl n.srcs a).length=0) (hl:l.length≤6) (hp:∀ j:Nat,j<l.length→packetOk g (rp l j)=true) (hs:∀ a:Int,isNode g a=true→a<(n.srcs.length:Int)) (hz:wL σ n.srcs=0) :
    ∀ k:Nat,k≤l.length→wL σ (sndTo n l k).srcs=costTo n.mesh n.pa n.pb l k:=by
  intro k
  induction k with
  | zero=>intro _;exact hz
  | succ k ih=>
    intro hk
    have hsd:=snd_sent hm h0 hl hp k (by omega)
    have hpk:=hp k (by omega)
    obtain⟨hn,_,_,_,h5,h6⟩:=packet_parts hpk
    have e:(sndTo n l (k+1)).srcs=(sndTo n l k).srcs.set (rp l k).src.toNat (rl (sndTo n l k).srcs (rp l k).src++flitsTo (rp l k) (rp l k).len.toNat):=by
      show (sndN (sndTo n l k) (rp l k)).srcs=_
      unfold sndN
      rw[if_pos hsd]
      show (sndTo n l k).srcs.set _ _=_
      rw[snd_mesh,hm,flitsOf_yes hpk]
    have h1:=wL_set σ (l:=(sndTo n l k).srcs) (b:=(rp l k).src) (v:=rl (sndTo n l k).srcs (rp l k).src++flitsTo (rp l k) (rp l k).len.toNat) (isNode_iff.1 hn).1 (by rw[snd_len];exact hs _ hn)
    rw[wF_app,wF_flits (σ (rp l k).src) _ (rp l k) (hσ (rp l k)),ih (by omega)] at h1
    rw[e,costTo]
    unfold cost
    omega
theorem wt_walk {m:Mesh} {t:List Int} {a b:Int} (h:tableOk m t=true) (ha:isNode m.g a=true) (hb:isNode m.g b=true):wt m t a b=walk m t a b:=by
  unfold wt
  by_cases e:a=b
  · rw[if_neg (by simp[e]),e,(hop_end h hb).2]
  · have hs:sized m t=true:=by
      unfold tableOk at h
      simp only[Bool.and_eq_true] at h
      exact h.1
    rw[if_pos (by rw[hs,ha,hb];simp[e])]
def addC (xs:List Int) (v:Int):Nat→Int
  | 0=>0
  | c+1=>addC xs v c+(if has xs (c:Int) then v else 0)
theorem addC_nil (v:Int):∀ C,addC [] v C=0:=by
  intro C
  induction C with
  | zero=>rfl
  | succ C ih=>rw[addC,ih];simp[has]
theorem addC_cons {x:Int} {xs:List Int} (v:Int) (hx:x ∉ xs) (x0:0≤x):∀ C:Nat,addC (x::xs) v C=addC xs v C+(if x<(C:Int) then v else 0):=by
  intro C
  induction C with
  | zero=>simp[addC];omega
  | succ C ih=>
    rw[addC,addC,ih]
    by_cases e:x=(C:Int)
    · subst e
      have h1:has ((C:Int)::xs) (C:Int)=true:=by simp[has]
      have h2:has xs (C:Int)=false:=by simpa [has] using hx
      have l1:¬ (C:Int)<(C:Int):=by omega
      have l2:(C:Int)<((C+1:Nat):Int):=by push_cast;omega
      simp only[h1,h2,if_pos l2,if_neg l1,if_true,Bool.false_eq_true,if_false]
      try omega
    · have h1:has (x::xs) (C:Int)=has xs (C:Int):=by
        have:¬ (C:Int)=x:=fun h=>e h.symm
        simp[has,this]
      rw[h1]
      obtain⟨z,hz⟩:∃ z,(if has xs (C:Int)=true then v else 0)=z:=⟨_,rfl⟩
      rw[hz]
      by_cases h2:x<(C:Int)
      · have l2:x<((C+1:Nat):Int):=by push_cast;omega
        rw[if_pos h2,if_pos l2];omega
      · have l2:¬ x<((C+1:Nat):Int):=by push_cast;omega
        rw[if_neg h2,if_neg l2];omega
theorem addC_all (v:Int) (C:Nat):∀ xs:List Int,xs.Nodup→(∀ x∈xs,0≤x∧x<(C:Int))→addC xs v C=xs.length*v:=by
  intro xs
  induction xs with
  | nil=>intro _ _;rw[addC_nil];simp
  | cons x xs ih=>
    intro hn hr
    rw[List.nodup_cons] at hn
    have h1:=hr x (by simp)
    rw[addC_cons v hn.1 h1.1,ih hn.2 (fun y hy=>hr y (by simp[hy])),if_pos h1.2]
    simp only[List.length_cons]
    push_cast
    rw[Int.add_mul];omega
def hopsTo (m:Mesh) (pa pb:List Int) (l:List Packet):Nat→Int
  | 0=>0
  | k+1=>hopsTo m pa pb l k+(rp l k).len*(walkP m pa pb (rp l k)).length
theorem loads_sum (m:Mesh) (pa pb:List Int) (l:List Packet):∀ k:Nat,k≤l.length→∀ C:Nat,C≤chans m→sumTo (loadsL m pa pb (l.take k)) C=if k=0 then 0 else sumTo (loadsL m pa pb (l.take (k - 1))) C+addC (walkP m pa pb (rp l (k - 1:Nat))) (rp l (k - 1:Nat)).len C:=by
  intro k hk C
  induction C with
  | zero=>intro _;split <;> simp[sumTo,addC]
  | succ C ih=>
    intro hC
    have i0:=ih (by omega)
    rw[sumTo_succ _ _ (by rw[loadsL_len];omega),loadsL_get _ _ _ _ _ (by omega),i0]
    cases k with
    | zero=>simp[loadAt]
    | succ k=>
      rw[if_neg (by omega),if_neg (by omega),Nat.add_sub_cancel,sumTo_succ _ _ (by rw[loadsL_len];omega),loadsL_get _ _ _ _ _ (by omega),loadAt_take _ _ _ _ _ (by omega),addC]
      unfold addsTo
      omega
theorem hops_sum {m:Mesh} (pa pb:List Int) (l:List Packet):∀ k:Nat,k≤l.length→sumTo (loadsL m pa pb (l.take k)) (chans m)=hopsTo m pa pb l k:=by
  intro k
  induction k with
  | zero=>intro hk;rw[loads_sum m pa pb l 0 hk _ (Nat.le_refl _)];rfl
  | succ k ih=>
    intro hk
    rw[loads_sum m pa pb l (k+1) hk _ (Nat.le_refl _),if_neg (by omega),Nat.add_sub_cancel,ih (by omega),hopsTo]
    have:=addC_all (rp l k).len (chans m) (walkP m pa pb (rp l k)) (wt_nodup _ _ _ _) (fun x hx=>by
      have:=wt_range hx
      unfold chans
      omega)
    rw[this,Int.mul_comm]
def lenTo (l:List Packet):Nat→Int
  | 0=>0
  | k+1=>lenTo l k+(rp l k).len
theorem cost_hops {m:Mesh} {pa pb:List Int} {l:List Packet} (hc:classesOk m pa pb=true) (hp:∀ j:Nat,j<l.length→packetOk m.g (rp l j)=true):∀ k:Nat,k≤l.length→(costTo m pa pb l k:Int)=hopsTo m pa pb l k+2*lenTo l k:=by
  intro k
  induction k with
  | zero=>intro _;rfl
  | succ k ih=>
    intro hk
    obtain⟨h1,h2,_,_,h5,h6⟩:=packet_parts (hp k (by omega))
    have ht:tableOk m (tabOf pa pb (rp l k).cls)=true:=by
      simp only[classesOk,Bool.and_eq_true] at hc
      unfold tabOf
      split
      · exact hc.2
      · exact hc.1
    have e:walkP m pa pb (rp l k)=walk m (tabOf pa pb (rp l k).cls) (rp l k).src (rp l k).dst:=wt_walk ht h1 h2
    rw[costTo,hopsTo,lenTo]
    push_cast
    rw[ih (by omega),e]
    unfold cost
    push_cast
    rw[Int.toNat_of_nonneg (by omega)]
    simp only[Int.mul_add]
    omega
theorem idleFrom_least {n:Net}:∀ (f i j:Nat),i≤j→j<i+f→idleN (runN n j)=true→∃ K:Nat,idleFrom n i f=(K:Int)∧i≤K∧K≤j∧idleN (runN n K)=true:=by
  intro f
  induction f with
  | zero=>intro i j h1 h2;omega
  | succ f ih=>
    intro i j h1 h2 h3
    rw[idleFrom]
    split
    · rename_i hi
      exact⟨i,rfl,Nat.le_refl _,h1,hi⟩
    · rename_i hi
      have:i≠j:=fun e=>hi (by rw[e];exact h3)
      obtain⟨K,a,b,c,d⟩:=ih (i+1) j (by omega) (by omega) h3
      exact⟨K,a,by omega,c,d⟩
namespace St0
variable {g:Grid} {r s:Int} {l:List Packet}
theorem srcs (h:St0 g r s l):(stt g r s l).srcs=(sndTo (nw0 g r s) l l.length).srcs:=by
  show (sendAllN (nw0 g r s) l).srcs=_
  unfold sendAllN
  rw[if_pos h.can]
theorem nlen (h:St0 g r s l):((nw0 g r s).srcs.length:Int)=nodeCount g∧((nw0 g r s).arrs.length:Int)=nodeCount g:=by
  obtain⟨_,_,_,_,h4,h5,_⟩:=netOk_parts h.nok
  exact⟨h4,h5⟩
theorem pk (h:St0 g r s l) (j:Nat) (hj:j<l.length):packetOk g (rp l j)=true:=(h.dr.2 j hj).1
theorem pos (h:St0 g r s l) (j:Nat) (hj:j<l.length):∃ i:Nat,(rp l j).len.toNat≤i+1∧i<(rl (stt g r s l).srcs (rp l j).src).length∧rf (rl (stt g r s l).srcs (rp l j).src) (i:Int)=flitAt (rp l j) ((rp l j).len.toNat - 1):=by
  rw[h.srcs]
  exact snd_pos (g:=g) rfl (src0 g r s) h.dr.1 h.pk (fun a ha=>by rw[h.nlen.1];exact(isNode_iff.1 ha).2) _ (Nat.le_refl _) j hj
theorem slen (h:St0 g r s l):(stt g r s l).srcs.length=(nw0 g r s).srcs.length:=by rw[h.srcs,snd_len]
theorem alen (g:Grid) (r s:Int) (l:List Packet):(stt g r s l).arrs.length=(nw0 g r s).arrs.length:=by
  have e:(stt g r s l).arrs=(nw0 g r s).arrs:=(sendAll_rest (nw0 g r s) l).2.1
  rw[e]
theorem wz (σ:Int→Flit→Nat) {L:List (List Flit)} (h:∀ i,rl L i=[]):wL σ L=0:=by
  unfold wL
  have:∀ k,wTo σ L k=0:=by
    intro k
    induction k with
    | zero=>rfl
    | succ k ih=>rw[wTo,ih,h];rfl
  exact this _
theorem hpX (g:Grid) (r s:Int) (l:List Packet) (a:Int) (f:Flit):hp (stt g r s l) a f=(walk ⟨g,[]⟩ (tabOf (makeT g r) (makeT g s) f.cls) a f.dst).length:=by
  unfold hp
  rw[mesh,(tabs g r s l).1,(tabs g r s l).2]
theorem lft (h:St0 g r s l):left (stt g r s l)=costTo ⟨g,[]⟩ (makeT g r) (makeT g s) l l.length:=by
  unfold left
  rw[wz _ (bufs g r s l),h.srcs,Nat.zero_add]
  exact snd_cost (n:=nw0 g r s) (g:=g) _ (fun p i=>by
    unfold wS
    rw[hpX]
    rfl) rfl (src0 g r s) h.dr.1 h.pk (fun a ha=>by rw[h.nlen.1];exact(isNode_iff.1 ha).2) (wz _ (fun i=>by
      have:=src0 g r s i
      exact List.length_eq_zero_iff.1 this)) _ (Nat.le_refl _)
theorem cost40 (h:St0 g r s l) (r3:r≤3) (s3:s≤3):∀ k:Nat,k≤l.length→costTo ⟨g,[]⟩ (makeT g r) (makeT g s) l k≤40*k:=by
  intro k
  induction k with
  | zero=>intro _;exact Nat.le_refl _
  | succ k ih=>
    intro hk
    have:=ih (by omega)
    obtain⟨h1,h2,_,_,h5,h6⟩:=packet_parts (h.pk k (by omega))
    rw[costTo]
    have hw:(walk ⟨g,[]⟩ (tabOf (makeT g r) (makeT g s) (rp l k).cls) (rp l k).src (rp l k).dst).length≤6:=by
      have hg:1≤g.w∧g.w≤4∧1≤g.h∧g.h≤4:=⟨h.g1.1,h.g1.2.1,h.g1.2.2.1,h.g1.2.2.2.1⟩
      unfold tabOf
      split
      · exact std_six hg h.r1.2.2.1 s3 h1 h2
      · exact std_six hg h.r1.1 r3 h1 h2
    have hc:cost ⟨g,[]⟩ (makeT g r) (makeT g s) (rp l k)≤5*8:=by
      unfold cost
      exact Nat.mul_le_mul (by omega) (by omega)
    omega
theorem drains (h:St0 g r s l) (r3:r≤3) (s3:s≤3):∃ K:Nat,toIdleN (stt g r s l)=(K:Int)∧K≤costTo ⟨g,[]⟩ (makeT g r) (makeT g s) l l.length∧K≤240∧idleN (runN (stt g r s l) K)=true:=by
  have hsafe:=h.safe r3 s3
  have hc:=h.cost40 r3 s3 l.length (Nat.le_refl _)
  have h6:=h.dr.1
  obtain⟨j,hj,hi⟩:=hsafe.idle (left (stt g r s l)) (Nat.le_refl _) (by rw[time,h.lft];omega)
  rw[h.lft] at hj
  obtain⟨K,e,_,hK,hi2⟩:=idleFrom_least (n:=stt g r s l) 401 0 j (by omega) (by omega) hi
  refine⟨K,?_,by omega,by omega,hi2⟩
  unfold toIdleN
  rw[if_pos h.ok,if_pos (by rw[time];omega),e]
theorem none_missing (h:St0 g r s l) {K:Nat} (hk:K≤400) (hi:idleN (runN (stt g r s l) K)=true):missN (runN (stt g r s l) K) l=[]:=by
  refine miss_none (WE_run h.ok h.we K (by rw[time];omega)) (fun j hj=>?_)
  obtain⟨i,i1,i2,i3⟩:=h.pos j hj
  obtain⟨h1,h2,_,_,h5,h6⟩:=packet_parts (h.pk j hj)
  have n1:=isNode_iff.1 h1
  have n2:=isNode_iff.1 h2
  have hm:flitAt (rp l j) ((rp l j).len.toNat - 1)∈rl (stt g r s l).srcs (rp l j).src:=by
    rw[←i3,rf_get _ _ i2]
    exact List.getElem_mem i2
  have hh:=has_run h.ok h.we (.inr (.inl ⟨(rp l j).src,n1.1,by rw[h.slen,h.nlen.1];exact n1.2,hm⟩)) K (by rw[time];omega)
  obtain⟨_,h8⟩:=has_idle hh hi
  refine⟨n2.1,?_,_,h8,?_,rfl,rfl⟩
  · rw[(run_lens _ _).a,alen,h.nlen.2];exact n2.2
  · show ((((rp l j).len.toNat - 1:Nat):Int) == (rp l j).len - 1)=true
    rw[beq_iff_eq];omega
theorem delivers (h:St0 g r s l) (r3:r≤3) (s3:s≤3):deliverN ⟨g,[]⟩ (makeT g r) (makeT g s) l=toIdleN (stt g r s l):=by
  obtain⟨K,e,_,hk,hi⟩:=h.drains r3 s3
  have e2:runIdleN (stt g r s l)=runN (stt g r s l) K:=by
    unfold runIdleN
    rw[if_pos (by omega),e,Int.toNat_natCast]
  refine deliver_yes h.cls h.all (by show 0≤toIdleN (stt g r s l);omega) ?_
  show (missN (runIdleN (stt g r s l)) l).length=0
  rw[e2,h.none_missing (by omega) hi];rfl
theorem slow (h:St0 g r s l) {K:Nat} (hk:K≤400) (hi:idleN (runN (stt g r s l) K)=true) (j:Nat) (hj:j<l.length):zeroLoad ⟨g,[]⟩ (makeT g r) (makeT g s) (rp l j)≤(K:Int):=by
  obtain⟨i,i1,i2,i3⟩:=h.pos j hj
  have hpk:=h.pk j hj
  obtain⟨h1,h2,_,_,h5,h6⟩:=packet_parts hpk
  have n1:=isNode_iff.1 h1
  have ht:tableOk ⟨g,[]⟩ (tabOf (makeT g r) (makeT g s) (rp l j).cls)=true:=by
    have:=h.cls
    simp only[classesOk,Bool.and_eq_true] at this
    unfold tabOf
    split
    · exact this.2
    · exact this.1
  have ez:zeroLoad ⟨g,[]⟩ (makeT g r) (makeT g s) (rp l j)=(walk ⟨g,[]⟩ (tabOf (makeT g r) (makeT g s) (rp l j).cls) (rp l j).src (rp l j).dst).length+(rp l j).len+1:=by
    unfold zeroLoad
    rw[if_pos (by rw[h.cls];exact hpk)]
    unfold walkP
    rw[wt_walk ht h1 h2]
  rcases Int.lt_or_le (K:Int) (zeroLoad ⟨g,[]⟩ (makeT g r) (makeT g s) (rp l j)) with hlt|hle
  · exfalso
    have hlate:late (stt g r s l) (K+1):=by
      right
      refine⟨(rp l j).src,i,n1.1,by rw[h.slen,h.nlen.1];exact n1.2,i2,?_⟩
      rw[i3,hpX]
      show K+1≤(walk ⟨g,[]⟩ (tabOf (makeT g r) (makeT g s) (rp l j).cls) (rp l j).src (rp l j).dst).length+2+i
      rw[ez] at hlt
      omega
    have:=late_run K h.ok h.we hlate K (Nat.le_refl _) (by rw[time];omega)
    rw[hi] at this
    cases this
  · exact hle
end St0
theorem laws_big (A:Option Addr) (N c:Nat) (w:World):Calls Tryz.prog 7 #[.slice A N c] w fun e w'=>e=.returned (.bool (decide ((1048576:Int)<(N:Int))))∧w=w':=by
  go_enter Tryz.func7,Tryz.ntmps7
  go_wp2
  go_ret
  exact⟨rfl,rfl⟩
set_option maxHeartbeats 16000000 in
set_option maxRecDepth 100000 in
theorem impl_NetNew (m:Mesh) (pa pb:List Int) (A1 A2 A3:Option Addr) (c1 c2 c3:Nat) (w:World) (hm:Kd.C (Kd.int .i64) w A1 m.br.length m.br) (hn:m.br.length≤2097152) (ha:Kd.C (Kd.int .i64) w A2 pa.length pa) (ka:pa.length≤2097152) (hb:Kd.C (Kd.int .i64) w A3 pb.length pb) (kb:pb.length≤2097152) :
  Calls Tryz.prog 14 #[.agg #[.int .i64 m.g.w,.int .i64 m.g.h,.slice A1 m.br.length c1],.agg #[.slice A2 pa.length c2,.slice A3 pb.length c3]] w fun e w'=>GotNV w w' (netNewN m pa pb) (.bool (classesOk m pa pb)) e∧Below w.heap.size w w':=by
 have HM:=Lib.hid hm
 have HA:=Lib.hid ha
 have HB:=Lib.hid hb
 clear hm ha hb
 obtain⟨wa,ewa⟩:∃ z,z=((w.alloc (.cells #[.int .i64 m.g.w,.int .i64 m.g.h,.slice A1 m.br.length c1] 28)).alloc (.cells #[.slice A2 pa.length c2,.slice A3 pb.length c3] 32)).alloc (.cells #[.int .i64 0,.int .i64 0,.slice none 0 0,.slice none 0 0,.slice none 0 0,.slice none 0 0,.slice none 0 0,.slice none 0 0,.slice none 0 0,.slice none 0 0,.int .i64 0] 42):=⟨_,rfl⟩
 have hwa:Below w.heap.size w wa:=by rw[ewa];exact bw_alloc _ (bw_alloc _ (bw_alloc _ (bw_refl w)))
 have HXM:Hid (Box wa w.heap.size #[.int .i64 m.g.w,.int .i64 m.g.h,.slice A1 m.br.length c1]):=Lib.hid (by rw[ewa];exact((Box.new w w.heap.size _ 28 rfl).alloc _).alloc _)
 have HXC:Hid (Box wa (w.heap.size+1) #[.slice A2 pa.length c2,.slice A3 pb.length c3]):=Lib.hid (by rw[ewa];exact(Box.new (w.alloc (.cells #[.int .i64 m.g.w,.int .i64 m.g.h,.slice A1 m.br.length c1] 28)) (w.heap.size+1) _ 32 (by simp only[szs])).alloc _)
 have HZ:Hid (BN wa (w.heap.size+2)):=Lib.hid (by rw[ewa];have h:=BT.new ((w.alloc (.cells #[.int .i64 m.g.w,.int .i64 m.g.h,.slice A1 m.br.length c1] 28)).alloc (.cells #[.slice A2 pa.length c2,.slice A3 pb.length c3] 32)) zeroN ZQ;simp only[szs] at h;exact h.bn)
 have zwa:wa.heap.size=w.heap.size+3:=by rw[ewa];simp only[szs]
 have g0:(((w.alloc (.cells #[.int .i64 m.g.w,.int .i64 m.g.h,.slice A1 m.br.length c1] 28)).alloc (.cells #[.slice A2 pa.length c2,.slice A3 pb.length c3] 32)).alloc (.cells #[.int .i64 0,.int .i64 0,.slice none 0 0,.slice none 0 0,.slice none 0 0,.slice none 0 0,.slice none 0 0,.slice none 0 0,.slice none 0 0,.slice none 0 0,.int .i64 0] 42)).cell? ⟨w.heap.size,0,none⟩=some (.int .i64 m.g.w):=by rw[←ewa];exact HXM.out.get 0
 have g1:(((w.alloc (.cells #[.int .i64 m.g.w,.int .i64 m.g.h,.slice A1 m.br.length c1] 28)).alloc (.cells #[.slice A2 pa.length c2,.slice A3 pb.length c3] 32)).alloc (.cells #[.int .i64 0,.int .i64 0,.slice none 0 0,.slice none 0 0,.slice none 0 0,.slice none 0 0,.slice none 0 0,.slice none 0 0,.slice none 0 0,.slice none 0 0,.int .i64 0] 42)).cell? ⟨w.heap.size,1,none⟩=some (.int .i64 m.g.h):=by rw[←ewa];exact HXM.out.get 1
 have g2:(((w.alloc (.cells #[.int .i64 m.g.w,.int .i64 m.g.h,.slice A1 m.br.length c1] 28)).alloc (.cells #[.slice A2 pa.length c2,.slice A3 pb.length c3] 32)).alloc (.cells #[.int .i64 0,.int .i64 0,.slice none 0 0,.slice none 0 0,.slice none 0 0,.slice none 0 0,.slice none 0 0,.slice none 0 0,.slice none 0 0,.slice none 0 0,.int .i64 0] 42)).cell? ⟨w.heap.size,2,none⟩=some (.slice A1 m.br.length c1):=by rw[←ewa];exact HXM.out.get 2
 have g3:(((w.alloc (.cells #[.int .i64 m.g.w,.int .i64 m.g.h,.slice A1 m.br.length c1] 28)).alloc (.cells #[.slice A2 pa.length c2,.slice A3 pb.length c3] 32)).alloc (.cells #[.int .i64 0,.int .i64 0,.slice none 0 0,.slice none 0 0,.slice none 0 0,.slice none 0 0,.slice none 0 0,.slice none 0 0,.slice none 0 0,.slice none 0 0,.int .i64 0] 42)).cell? ⟨w.heap.size+1,0,none⟩=some (.slice A2 pa.length c2):=by rw[←ewa];exact HXC.out.get 0
 have g4x:(((w.alloc (.cells #[.int .i64 m.g.w,.int .i64 m.g.h,.slice A1 m.br.length c1] 28)).alloc (.cells #[.slice A2 pa.length c2,.slice A3 pb.length c3] 32)).alloc (.cells #[.int .i64 0,.int .i64 0,.slice none 0 0,.slice none 0 0,.slice none 0 0,.slice none 0 0,.slice none 0 0,.slice none 0 0,.slice none 0 0,.slice none 0 0,.int .i64 0] 42)).cell? ⟨w.heap.size+1,1,none⟩=some (.slice A3 pb.length c3):=by rw[←ewa];exact HXC.out.get 1
 go_enter Tryz.func14,Tryz.ntmps14
 go_wp2_with fail
 rw[←ewa]
 clear g0 g1 g2 g3 g4x ewa
 refine(impl_ClassesOk m pa pb A1 A2 A3 c1 c2 c3 _ (Kd.C_below HM.out hwa) hn (Kd.C_below HA.out hwa) ka (Kd.C_below HB.out hwa) kb).mono ?_
 rintro e w2 ⟨rfl,Bb⟩
 have HW2:Hid (Below w.heap.size w w2):=Lib.hid (bw_then hwa Bb)
 have HXM2:=Lib.hid (HXM.out.below Bb)
 have HXC2:=Lib.hid (HXC.out.below Bb)
 have HZ2:=Lib.hid (HZ.out.below Bb)
 have zw2:=bw_size Bb
 clear Bb hwa HXM HXC HZ
 cases hk:classesOk m pa pb
 ·have HE:Hid (netNewN m pa pb=zeroN):=Lib.hid (by unfold netNewN;rw[hk];rfl)
  obtain⟨⟨ry0,rv0⟩,⟨ry1,rv1⟩,⟨ry2,rv2⟩,⟨ry3,rv3⟩,⟨ry4,rv4⟩,⟨ry5,rv5⟩,⟨ry6,rv6⟩,⟨ry7,rv7⟩,⟨ry8,rv8⟩,⟨ry9,rv9⟩,⟨ry10,rv10⟩,rz0,rz1,rz2,rz3,rz4,rz5,rz6,rz7,rz8,rz9,rz10⟩:=allBN HZ2.out
  have zl:=HZ2.out.lt
  go_wp2
  obtain⟨W9,e9⟩:∃ z,z=putN w2 (w.heap.size+2) zeroN ZQ:=⟨_,rfl⟩
  have HB9:Hid (BT W9 (w.heap.size+2) zeroN ZQ):=Lib.hid (by rw[e9];exact putN_BT HZ2.out)
  have HL9:Hid (Below w.heap.size w W9):=Lib.hid (by rw[e9];exact below_put HW2.out (by omega))
  unfold putN at e9
  simp only[zeroN,ZQ,List.length_nil] at e9
  rw[←e9]
  clear e9
  exact bodyPost_ret (results_cell_row2 Tryz.results14 _ _ (w.heap.size+2) 42 _ (0,0) _ rfl HB9.out Tryz.underlying42 rfl (by kernel_rfl)) rfl (by rw[HE.out,hk];exact⟨⟨_,_,_,_,rfl,NX.zero _ _⟩,HL9.out⟩)
 ·have HE:Hid (netNewN m pa pb=newN m pa pb):=Lib.hid (by unfold netNewN;rw[hk];rfl)
  have x0:w2.cell? ⟨w.heap.size,0,none⟩=some (.int .i64 m.g.w):=HXM2.out.get 0
  have x1:w2.cell? ⟨w.heap.size,1,none⟩=some (.int .i64 m.g.h):=HXM2.out.get 1
  have xl:=HXM2.out.lt
  go_wp2_with fail
  refine(impl_NodeCount m.g _).mono ?_
  rintro e w3 ⟨rfl,hb3⟩
  have hcn:=count_nat m.g
  have k16':=count_le m.g
  obtain⟨K,hK⟩:∃ K:Nat,nodeCount m.g=(K:Int):=⟨(nodeCount m.g).toNat,by omega⟩
  have HKN:Hid ((nodeCount m.g).toNat=K):=Lib.hid (by omega)
  have k16:K≤16:=by omega
  rw[hK]
  obtain⟨K10,eK10⟩:∃ z,z=10*K:=⟨_,rfl⟩
  obtain⟨K5,eK5⟩:∃ z,z=5*K:=⟨_,rfl⟩
  have HK10:=Lib.hid eK10
  have HK5:=Lib.hid eK5
  have hw10:IntKind.i64.wrap (10*(K:Int))=(K10:Int):=by rw[IntWalk.i64_in _ (by omega)];omega
  have hw5:IntKind.i64.wrap (5*(K:Int))=(K5:Int):=by rw[IntWalk.i64_in _ (by omega)];omega
  have MK10:Hid (∀ W:World,(Instr.makeSlice 40 (.int .i64 (K10:Int)) (.int .i64 (K10:Int))).run Tryz.prog W=.ok (.slice (some ⟨W.heap.size,0,none⟩) K10 K10) (W.alloc (.cells (madeCells #[.slice none 0 0] K10) 145))):=Lib.hid (fun W=>run_make_row' 40 145 (.slice none 0 0) 24 Tryz.underlying40 info_B rfl .i64 .i64 K10 (by omega) (by omega) W)
  have MK1:Hid (∀ W:World,(Instr.makeSlice 40 (.int .i64 (K:Int)) (.int .i64 (K:Int))).run Tryz.prog W=.ok (.slice (some ⟨W.heap.size,0,none⟩) K K) (W.alloc (.cells (madeCells #[.slice none 0 0] K) 145))):=Lib.hid (fun W=>run_make_row' 40 145 (.slice none 0 0) 24 Tryz.underlying40 info_B rfl .i64 .i64 K (by omega) (by omega) W)
  have MK5:Hid (∀ W:World,(Instr.makeSlice 26 (.int .i64 (K5:Int)) (.int .i64 (K5:Int))).run Tryz.prog W=.ok (.slice (some ⟨W.heap.size,0,none⟩) K5 K5) (W.alloc (.cells (madeCells #[.int .i64 0] K5) 3))):=Lib.hid (fun W=>run_make_row' 26 3 (.int .i64 0) 8 Tryz.underlying26 info_int rfl .i64 .i64 K5 (by omega) (by omega) W)
  clear eK10 eK5 hK hcn k16' x0 x1 xl
  have HW3:Hid (Below w.heap.size w w3):=Lib.hid (bw_then HW2.out hb3)
  have HXM3:=Lib.hid (HXM2.out.below hb3)
  have HXC3:=Lib.hid (HXC2.out.below hb3)
  have HZ3:=Lib.hid (HZ2.out.below hb3)
  have HM3:=Lib.hid (Kd.C_below HM.out HW3.out)
  have HA3:=Lib.hid (Kd.C_below HA.out HW3.out)
  have HB3:=Lib.hid (Kd.C_below HB.out HW3.out)
  have zw3:=bw_size hb3
  have l1:=HXM3.out.lt
  have l2:=HXC3.out.lt
  clear hb3 HXM2 HXC2 HZ2 HM HA HB HW2
  have k10:K10≤160:=by have:=HK10.out;omega
  go_wp2_with fail
  refine wp_region_tz w3.heap.size (fun i=>if i=6 then .cells (madeCells #[.int .i64 0] K5) 3 else if i=8 then .cells #[.int .i64 0,.int .i64 0,.slice none 0 0,.slice none 0 0,.slice none 0 0,.slice none 0 0,.slice none 0 0,.slice none 0 0,.slice none 0 0,.slice none 0 0,.int .i64 0] 42 else .cells #[] 0) (fun i g=>if i=6 then .slice (some ⟨g,0,none⟩) K5 K5 else if i=8 then .pointer (some ⟨g,0,none⟩) else undef) (fun W=>Below w3.heap.size w3 W) 9 [(0,.quiet),(1,.chain),(2,.quiet),(3,.chain),(4,.quiet),(5,.quiet),(6,.lit),(7,.quiet),(8,.lit)] (by kernel_rfl) (by kernel_rfl) (by kernel_rfl) (by kernel_rfl) (by kernel_rfl) (by kernel_rfl) (by kernel_rfl) (by kernel_rfl) (bw_drew (bw_refl _)) ⟨fun w o h=>bw_alloc o h,fun w h=>bw_size h⟩ (fun _=>True) trivial (fun _ _ _ _ _=>trivial) ?_
  refine wpTz_v (some 16) (.agg #[.int .i64 m.g.w,.int .i64 m.g.h,.slice A1 m.br.length c1]) rfl rfl (by rfl) (fun W hC=>?_) ?_
  ·have h0:W.cell? ⟨w.heap.size,0,none⟩=some (.int .i64 m.g.w):=(Box.below HXM3.out hC).get 0
   have h1:W.cell? ⟨w.heap.size,1,none⟩=some (.int .i64 m.g.h):=(Box.below HXM3.out hC).get 1
   have h2:W.cell? ⟨w.heap.size,2,none⟩=some (.slice A1 m.br.length c1):=(Box.below HXM3.out hC).get 2
   clear hC
   go_simp
   try rfl
  try simp only[Act.put,nms]
  refine wpTz_d (some 17) rfl rfl (by rfl) (PX.mk0 none 0 0 0) (fun y=>.agg #[.int .i64 m.g.w,.int .i64 m.g.h,.slice y.A m.br.length y.c]) (fun y W=>gI w3.heap.size y m.br W) (fun y=>(y.lo,y.hi)) (fun W hF hC=>?_) (fun y W W' h hb=>h.stp ⟨hb⟩) (fun y1=>?_)
  ·refine LoOp.enter (by go_simp;first|done|exact⟨rfl,rfl⟩|rfl) ?_
   refine(impl_copyMesh m A1 c1 W (Kd.C_below HM3.out hC) hn).mono ?_
   rintro e W1 ⟨hg1,Ba⟩
   obtain⟨v,rfl,hO⟩:=hg1
   obtain⟨A,c,rfl⟩:=Kd.R_slice hO
   exact⟨_,rfl,PX.mk0 A c W.heap.size W1.heap.size,rfl,bw_then hC Ba,⟨bw_size hC,bw_size Ba,Nat.le_refl _,RU.of hO (Nat.le_refl _) (Nat.le_refl _)⟩,Ba,Nat.le_refl _,Nat.le_refl _⟩
  obtain⟨AM,cM,AM2,cM2,vsM,lM,hM⟩:=y1
  dsimp only
  try simp only[Act.put,nms]
  refine wpTz_v (some 18) (.agg #[.slice A2 pa.length c2,.slice A3 pb.length c3]) rfl rfl (by rfl) (fun W hC=>?_) ?_
  ·have h0:W.cell? ⟨w.heap.size+1,0,none⟩=some (.slice A2 pa.length c2):=(Box.below HXC3.out hC).get 0
   have h1:W.cell? ⟨w.heap.size+1,1,none⟩=some (.slice A3 pb.length c3):=(Box.below HXC3.out hC).get 1
   clear hC
   go_simp
   try rfl
  try simp only[Act.put,nms]
  refine wpTz_d (some 19) rfl rfl (by rfl) (PX.mk0 none 0 0 0) (fun y=>.agg #[.slice y.A pa.length y.c,.slice y.A2 pb.length y.c2]) (fun y W=>RawC w3.heap.size ⟨AM,cM,AM2,cM2,vsM,lM,hM⟩ y m pa pb W) (fun y=>(y.lo,y.hi)) (fun W hF hC=>?_) (fun y W W' h hb=>h.below hb) (fun y2=>?_)
  ·refine LoOp.enter (by go_simp;first|done|exact⟨rfl,rfl⟩|rfl) ?_
   refine(impl_copyClasses pa pb A2 A3 c2 c3 W (Kd.C_below HA3.out hC) ka (Kd.C_below HB3.out hC) kb).mono ?_
   rintro e W1 ⟨hg1,Ba⟩
   obtain⟨va,vb,rfl,hO1,hO2,hap⟩:=hg1
   obtain⟨Aa,ca,rfl⟩:=Kd.R_slice hO1
   obtain⟨Ab,cb,rfl⟩:=Kd.R_slice hO2
   exact⟨_,rfl,⟨Aa,ca,Ab,cb,[],W.heap.size,W1.heap.size⟩,rfl,bw_then hC Ba,⟨hF.stp ⟨Ba⟩,hF.2.2.1,bw_size Ba,Nat.le_refl _,RU.of hO1 (Nat.le_refl _) (Nat.le_refl _),RU.of hO2 (Nat.le_refl _) (Nat.le_refl _),hap⟩,Ba,Nat.le_refl _,Nat.le_refl _⟩
  obtain⟨AA,cA,AB,cB,vsC,lC,hCC⟩:=y2
  dsimp only
  try simp only[Act.put,nms]
  refine wpTz_v (some 20) (.int .i64 (K:Int)) rfl rfl (by rfl) (fun W hC=>?_) ?_
  ·clear hC
   go_simp
   try rfl
  try simp only[Act.put,nms]
  refine wpTz_v (some 21) (.int .i64 (K5:Int)) rfl rfl (by rfl) (fun W hC=>?_) ?_
  ·clear hC
   go_simp
   try rfl
  try simp only[Act.put,nms]
  refine wpTz_l (some 22) rfl rfl (by rfl) (fun W=>?_) (fun g6=>?_)
  ·have hk:=MK5.out W
   go_simp
   try rfl
  try simp only[Act.put,nms]
  refine wpTz_v (some 23) (.agg #[.int .i64 m.g.w,.int .i64 m.g.h,.slice AM m.br.length cM,.slice AA pa.length cA,.slice AB pb.length cB,.slice none 0 0,.slice none 0 0,.slice (some ⟨g6,0,none⟩) K5 K5,.slice none 0 0,.slice none 0 0,.int .i64 0]) rfl rfl (by rfl) (fun W hC=>?_) ?_
  ·clear hC
   go_simp
   try rfl
  try simp only[Act.put,nms]
  refine wpTz_l (some 7) rfl rfl (by rfl) (fun W=>?_) (fun gb=>?_)
  ·go_simp
   try rfl
  try simp only[Act.put,nms]
  refine wpTz_z (fun w8 hF hC=>?_)
  obtain⟨⟨hR,b6,h6,i6⟩,bb,hb,ib⟩:=hF
  have hbn:BN w8 gb:=⟨_,hb,rfl⟩
  obtain⟨⟨ry0,rv0⟩,⟨ry1,rv1⟩,⟨ry2,rv2⟩,⟨ry3,rv3⟩,⟨ry4,rv4⟩,⟨ry5,rv5⟩,⟨ry6,rv6⟩,⟨ry7,rv7⟩,⟨ry8,rv8⟩,⟨ry9,rv9⟩,⟨ry10,rv10⟩,rz0,rz1,rz2,rz3,rz4,rz5,rz6,rz7,rz8,rz9,rz10⟩:=allBN hbn
  have hbl:=hbn.lt
  refine⟨_,rfl,by rfl,?_⟩
  go_simp
  obtain⟨W9,e9⟩:∃ z,z=putN w8 gb { mesh:=m,pa:=pa,pb:=pb,bufs:=[],owners:=[],turns:=List.replicate (5*(nodeCount m.g).toNat) 0,srcs:=[],arrs:=[],time:=0 } ⟨AM,AA,AB,none,none,some ⟨g6,0,none⟩,none,none,cM,cA,cB,0,0,5*(nodeCount m.g).toNat,0,0⟩:=⟨_,rfl⟩
  have HB9:Hid (BT W9 gb { mesh:=m,pa:=pa,pb:=pb,bufs:=[],owners:=[],turns:=List.replicate (5*(nodeCount m.g).toNat) 0,srcs:=[],arrs:=[],time:=0 } ⟨AM,AA,AB,none,none,some ⟨g6,0,none⟩,none,none,cM,cA,cB,0,0,5*(nodeCount m.g).toNat,0,0⟩):=Lib.hid (by rw[e9];exact putN_BT hbn)
  have HL9:Hid (Below w3.heap.size w3 W9):=Lib.hid (by rw[e9];exact below_put hC bb)
  have j6:=i6;have jb:=ib
  simp only[List.forall_mem_cons,List.not_mem_nil,false_implies,implies_true,and_true] at j6 jb
  have HR9:Hid (RawC w3.heap.size ⟨AM,cM,AM2,cM2,vsM,lM,hM⟩ ⟨AA,cA,AB,cB,vsC,lC,hCC⟩ m pa pb W9):=Lib.hid (by rw[e9];exact raw_put hR (by dsimp only;omega) (by dsimp only;omega))
  have HG6:Hid (W9.heap[g6]?=some (.cells (madeCells #[.int .i64 0] K5) 3 (0,0))):=Lib.hid (by rw[e9];exact(blk_put (by omega)).trans h6)
  unfold putN at e9
  simp only[newN,List.length_replicate,List.length_nil,HKN.out,HK10.out.symm,HK5.out.symm] at e9
  rw[←e9]
  clear e9 hC hR hb h6 hbn i6 ib
  clear rv0 rz0 rv1 rz1 rv2 rz2 rv3 rz3 rv4 rz4 rv5 rz5 rv6 rz6 rv7 rz7 rv8 rz8 rv9 rz9 rv10 rz10
  have y5:W9.cell? ⟨gb,5,none⟩=some (.slice none 0 0):=HB9.out.box.get 5
  have z5:W9.frozen? ⟨gb,5,none⟩=false:=HB9.out.frozen 5
  have y8:W9.cell? ⟨gb,8,none⟩=some (.slice none 0 0):=HB9.out.box.get 8
  have z8:W9.frozen? ⟨gb,8,none⟩=false:=HB9.out.frozen 8
  have y9:W9.cell? ⟨gb,9,none⟩=some (.slice none 0 0):=HB9.out.box.get 9
  have z9:W9.frozen? ⟨gb,9,none⟩=false:=HB9.out.frozen 9
  have gl:=HB9.out.lt
  have gl1:gb<W9.heap.size+1:=by omega
  have gl2:gb<W9.heap.size+1+1:=by omega
  have gl3:gb<W9.heap.size+1+1+1:=by omega
  have zw9:=bw_size HL9.out
  have mk10:=MK10.out
  have mk1:=MK1.out
  have n6:g6≠gb:=by omega
  have jb1:gb<lC∨hCC≤gb:=by omega
  have jb2:gb<lM∨hM≤gb:=by omega
  clear jb
  go_wp2_with fail
  refine Code.wp_mono (Q:=fun e a' w'=>e=.normal∧∃ g4 g7 g8:Nat,a'=⟨#[.agg #[.int .i64 m.g.w,.int .i64 m.g.h,.slice A1 m.br.length c1],.agg #[.slice A2 pa.length c2,.slice A3 pb.length c3],.pointer (some ⟨w.heap.size,0,none⟩),.pointer (some ⟨w.heap.size+1,0,none⟩),.pointer (some ⟨w.heap.size+1+1,0,none⟩),.bool false,.int .i64 (K:Int),.pointer (some ⟨gb,0,none⟩),.agg #[.int .i64 m.g.w,.int .i64 m.g.h,.slice A1 m.br.length c1],.agg #[.slice A2 pa.length c2,.slice A3 pb.length c3],.bool true,.bool false,undef,.pointer (some ⟨w.heap.size,0,none⟩),.agg #[.int .i64 m.g.w,.int .i64 m.g.h],.int .i64 (K:Int),.agg #[.int .i64 m.g.w,.int .i64 m.g.h,.slice A1 m.br.length c1],.agg #[.int .i64 m.g.w,.int .i64 m.g.h,.slice AM m.br.length cM],.agg #[.slice A2 pa.length c2,.slice A3 pb.length c3],.agg #[.slice AA pa.length cA,.slice AB pb.length cB],.int .i64 (K:Int),.int .i64 (K5:Int),.slice (some ⟨g6,0,none⟩) K5 K5,.agg #[.int .i64 m.g.w,.int .i64 m.g.h,.slice AM m.br.length cM,.slice AA pa.length cA,.slice AB pb.length cB,.slice none 0 0,.slice none 0 0,.slice (some ⟨g6,0,none⟩) K5 K5,.slice none 0 0,.slice none 0 0,.int .i64 0],.int .i64 (K:Int),.int .i64 (K10:Int),.slice (some ⟨g4,0,none⟩) K10 K10,.int .i64 (K:Int),.slice (some ⟨g7,0,none⟩) K K,.int .i64 (K:Int),.slice (some ⟨g8,0,none⟩) K K,.pointer (some ⟨gb,5,none⟩),.pointer (some ⟨gb,8,none⟩),.pointer (some ⟨gb,9,none⟩),undef,undef,undef,undef,undef,undef,undef,undef,undef,undef,undef],[]⟩∧Made5 w3 m pa pb ⟨AM,cM,AM2,cM2,vsM,lM,hM⟩ ⟨AA,cA,AB,cB,vsC,lC,hCC⟩ K K10 K5 W9 gb g6 g4 g7 g8 (netCells { mesh:=m,pa:=pa,pb:=pb,bufs:=[],owners:=[],turns:=List.replicate (5*(nodeCount m.g).toNat) 0,srcs:=[],arrs:=[],time:=0 } ⟨AM,AA,AB,none,none,some ⟨g6,0,none⟩,none,none,cM,cA,cB,0,0,5*(nodeCount m.g).toNat,0,0⟩) w') ?_ ?_
  case refine_2=>
   go_region
   all_goals exact⟨rfl,_,_,_,rfl,made5_of HL9.out HR9.out HG6.out HB9.out bb jb2 jb1 n6 _ _ _ _ _ _ (by first|exact .inl ⟨rfl,rfl,rfl⟩|exact .inr (.inl ⟨rfl,rfl,rfl⟩)|exact .inr (.inr ⟨rfl,rfl,rfl⟩)) (by first|exact .inl ⟨rfl,rfl,rfl⟩|exact .inr (.inl ⟨rfl,rfl,rfl⟩)|exact .inr (.inr ⟨rfl,rfl,rfl⟩)) (by first|exact .inl ⟨rfl,rfl,rfl⟩|exact .inr (.inl ⟨rfl,rfl,rfl⟩)|exact .inr (.inr ⟨rfl,rfl,rfl⟩)) (by omega)⟩
  rintro e a' w' ⟨rfl,g4,g7,g8,rfl,hM5⟩
  obtain⟨hLx,hRx,g6x,g4x,g7x,g8x,⟨p1,p2,p3⟩,⟨q4,q7,q8⟩,hBx⟩:=hM5
  have HL9:=Lib.hid hLx
  rw[show K10=10*(nodeCount m.g).toNat by rw[HKN.out];exact HK10.out] at g4x
  rw[show K5=5*(nodeCount m.g).toNat by rw[HKN.out];exact HK5.out] at g6x
  rw[show K=(nodeCount m.g).toNat from HKN.out.symm] at g7x g8x
  obtain⟨W9,e9⟩:∃ z,z=w':=⟨_,rfl⟩
  rw[←e9] at hBx hRx g6x g4x g7x g8x
  have HN9:Hid (NX W9 w3.heap.size { newN m pa pb with owners:=[] } ⟨AM,AA,AB,some ⟨g4,0,none⟩,none,some ⟨g6,0,none⟩,some ⟨g7,0,none⟩,some ⟨g8,0,none⟩,cM,cA,cB,10*(nodeCount m.g).toNat,0,5*(nodeCount m.g).toNat,(nodeCount m.g).toNat,(nodeCount m.g).toNat⟩ (List.replicate (10*(nodeCount m.g).toNat) (.slice none 0 0)) (List.replicate (nodeCount m.g).toNat (.slice none 0 0)) (List.replicate (nodeCount m.g).toNat (.slice none 0 0))):=Lib.hid (NX.raw hRx (by rw[HKN.out];exact k16) g4x g6x g7x g8x (by omega) b6 (by omega) (by omega) p1 p2 p3 (by dsimp only;omega) (by dsimp only;omega))
  have HB9:Hid (BT W9 gb { newN m pa pb with owners:=[] } ⟨AM,AA,AB,some ⟨g4,0,none⟩,none,some ⟨g6,0,none⟩,some ⟨g7,0,none⟩,some ⟨g8,0,none⟩,cM,cA,cB,10*(nodeCount m.g).toNat,0,5*(nodeCount m.g).toNat,(nodeCount m.g).toNat,(nodeCount m.g).toNat⟩):=Lib.hid (by
   rw[show K10=10*(nodeCount m.g).toNat by rw[HKN.out];exact HK10.out,show K=(nodeCount m.g).toNat from HKN.out.symm] at hBx
   refine hBx.trans ?_
   simp[netCells,newN])
  subst e9
  go_simp
  have HGB:=Lib.hid bb
  clear hBx hRx g6x g4x g7x g8x hLx
  go_wp2_with fail
  go_loopw [36] (fun i wr=>∃ (k:Nat) (A:Option Addr) (c:Nat),i=.int .i64 k∧k≤K10∧Hid (NX wr w3.heap.size { newN m pa pb with owners:=List.replicate k (-1) } ⟨AM,AA,AB,some ⟨g4,0,none⟩,A,some ⟨g6,0,none⟩,some ⟨g7,0,none⟩,some ⟨g8,0,none⟩,cM,cA,cB,10*(nodeCount m.g).toNat,c,5*(nodeCount m.g).toNat,(nodeCount m.g).toNat,(nodeCount m.g).toNat⟩ (List.replicate (10*(nodeCount m.g).toNat) (.slice none 0 0)) (List.replicate (nodeCount m.g).toNat (.slice none 0 0)) (List.replicate (nodeCount m.g).toNat (.slice none 0 0)))∧Hid (OApart { newN m pa pb with owners:=List.replicate k (-1) } ⟨AM,AA,AB,some ⟨g4,0,none⟩,A,some ⟨g6,0,none⟩,some ⟨g7,0,none⟩,some ⟨g8,0,none⟩,cM,cA,cB,10*(nodeCount m.g).toNat,c,5*(nodeCount m.g).toNat,(nodeCount m.g).toNat,(nodeCount m.g).toNat⟩)∧Hid (BT wr gb { newN m pa pb with owners:=List.replicate k (-1) } ⟨AM,AA,AB,some ⟨g4,0,none⟩,A,some ⟨g6,0,none⟩,some ⟨g7,0,none⟩,some ⟨g8,0,none⟩,cM,cA,cB,10*(nodeCount m.g).toNat,c,5*(nodeCount m.g).toNat,(nodeCount m.g).toNat,(nodeCount m.g).toNat⟩)∧Hid (Below w3.heap.size w3 wr)) (fun i _=>K10 - (intOf i).toNat)
  case atStart=>exact⟨0,none,0,rfl,Nat.zero_le _,Lib.hid HN9.out,Lib.hid (OApart.raw _ _ rfl),Lib.hid HB9.out,Lib.hid HL9.out⟩
  case round=>
   obtain⟨k,A,c,rfl,hk,HNk,HAk,HBk,HLk⟩:=hrel
   have xb:=HBk.out.lt
   by_cases hlt:k<K10
   ·have i0:(k:Int)<(K10:Int):=by omega
    have k0:(0:Int)≤(k:Int):=by omega
    have HO:Hid (Kd.R (Kd.int .i64) 3 wr w3.heap.size (fun _=>True) (.slice A k c) (List.replicate k (-1))):=Lib.hid (by have h:=HNk.out.owners;simp only[List.length_replicate] at h;exact h)
    have y6:wr.cell? ⟨gb,6,none⟩=some (.slice A k c):=by
     have h:wr.cell? ⟨gb,6,none⟩=some (.slice A (List.replicate k (-1:Int)).length c):=HBk.out.box.get 6
     rwa [List.length_replicate] at h
    have hz3:=bw_size HLk.out
    go_wp2_with (at_builtin;refine app_intN (B:=w3.heap.size) rfl (.tmp 39) (.tmp 40) rfl _ (List.replicate k (-1)) (-1) rfl rfl HO.out hz3 (by simp only[List.length_replicate];omega) ?_;intro v1 w1 HO1 hg1 ha1;obtain⟨A1x,c1x,rfl⟩:=Kd.R_slice HO1;have e1:List.replicate k (-1:Int)++[-1]=List.replicate (k+1) (-1):=(List.replicate_succ' ..).symm;rw[e1] at HO1 ha1 ⊢;have hBg:=HBk.out.grownI (v:=.slice A k c) hg1 HO.out;have hst:=ownStep HNk.out HAk.out HBk.out (by simp only[List.length_replicate];exact hg1) HO1 (by simp only[List.length_replicate] at ha1 ⊢;exact ha1);obtain⟨ry,rv⟩:=hBg.bn.get 6 (by omega);have rz:=hBg.bn.frozen 6;have hl1:=hBg.lt;have HLg:Hid (Below w3.heap.size w3 w1):=Lib.hid (HLk.out.grown hg1 hz3 (fun j hj=>Kd.R_base HO.out j hj));have HST:=Lib.hid hst;clear hst hBg HO1 ha1 hg1;rw[List.length_replicate])
    obtain⟨W8,e8⟩:∃ z,z=w1.setCell ⟨gb,6,none⟩ (.slice A1x (List.replicate (k+1) (-1:Int)).length c1x):=⟨_,rfl⟩
    have HS8:=HST.out
    rw[←e8] at HS8
    have HL8:Hid (Below w3.heap.size w3 W8):=Lib.hid (by rw[e8];exact bw_set0 HLg.out HGB.out 6 _)
    rw[List.length_replicate] at e8
    try rw[←e8]
    go_roundw
    case rel=>exact⟨k+1,A1x,c1x,by go_num,by omega,Lib.hid HS8.1,Lib.hid HS8.2.1,Lib.hid HS8.2.2,Lib.hid HL8.out⟩
    case measure=>simp[intOf];omega
   ·obtain rfl:k=K10:=by omega
    have i0:¬ (k:Int)<(k:Int):=by omega
    have HZk:Hid (BN wr (w.heap.size+2)):=Lib.hid (HZ3.out.low HLk.out (by omega))
    have hKK:=HK10.out
    obtain⟨NN,hNN⟩:∃ z,z=newN m pa pb:=⟨_,rfl⟩
    have eNN:({ newN m pa pb with owners:=List.replicate k (-1) }:Net)=NN:=by rw[hNN,hKK,←HKN.out];rfl
    rw[eNN] at HNk HBk
    have HNL:Hid (NN.mesh=m∧NN.pa=pa∧NN.pb=pb∧NN.bufs.length=k∧NN.owners.length=k∧NN.turns.length=K5∧NN.srcs.length=K∧NN.arrs.length=K∧NN.time=0):=Lib.hid (by
     have e5:=HK5.out
     have e1:=HKN.out
     subst hNN
     simp only[newN,List.length_replicate,e1]
     exact⟨trivial,trivial,trivial,by omega,by omega,by omega,trivial,trivial,trivial⟩)
    have HNN:=Lib.hid hNN
    clear hNN
    have box11:Box wr gb #[.int .i64 NN.mesh.g.w,.int .i64 NN.mesh.g.h,.slice AM NN.mesh.br.length cM,.slice AA NN.pa.length cA,.slice AB NN.pb.length cB,.slice (some ⟨g4,0,none⟩) NN.bufs.length (10*(nodeCount m.g).toNat),.slice A NN.owners.length c,.slice (some ⟨g6,0,none⟩) NN.turns.length (5*(nodeCount m.g).toNat),.slice (some ⟨g7,0,none⟩) NN.srcs.length (nodeCount m.g).toNat,.slice (some ⟨g8,0,none⟩) NN.arrs.length (nodeCount m.g).toNat,.int .i64 NN.time]:=HBk.out.box
    obtain⟨yb0,yb1,yb2,yb3,yb4,yb5,yb6,yb7,yb8,yb9,yb10⟩:=all11 box11
    clear box11
    obtain⟨⟨rq0,ru0⟩,⟨rq1,ru1⟩,⟨rq2,ru2⟩,⟨rq3,ru3⟩,⟨rq4,ru4⟩,⟨rq5,ru5⟩,⟨rq6,ru6⟩,⟨rq7,ru7⟩,⟨rq8,ru8⟩,⟨rq9,ru9⟩,⟨rq10,ru10⟩,rt0,rt1,rt2,rt3,rt4,rt5,rt6,rt7,rt8,rt9,rt10⟩:=allBN HZk.out
    have zl:=HZk.out.lt
    go_wp2
    obtain⟨W9,e9⟩:∃ z,z=putN wr (w.heap.size+2) NN ⟨AM,AA,AB,some ⟨g4,0,none⟩,A,some ⟨g6,0,none⟩,some ⟨g7,0,none⟩,some ⟨g8,0,none⟩,cM,cA,cB,10*(nodeCount m.g).toNat,c,5*(nodeCount m.g).toNat,(nodeCount m.g).toNat,(nodeCount m.g).toNat⟩:=⟨_,rfl⟩
    have HBz:Hid (BT W9 (w.heap.size+2) NN ⟨AM,AA,AB,some ⟨g4,0,none⟩,A,some ⟨g6,0,none⟩,some ⟨g7,0,none⟩,some ⟨g8,0,none⟩,cM,cA,cB,10*(nodeCount m.g).toNat,c,5*(nodeCount m.g).toNat,(nodeCount m.g).toNat,(nodeCount m.g).toNat⟩):=Lib.hid (by rw[e9];exact putN_BT HZk.out)
    have HNz:=Lib.hid (show NX W9 _ NN ⟨AM,AA,AB,some ⟨g4,0,none⟩,A,some ⟨g6,0,none⟩,some ⟨g7,0,none⟩,some ⟨g8,0,none⟩,cM,cA,cB,10*(nodeCount m.g).toNat,c,5*(nodeCount m.g).toNat,(nodeCount m.g).toNat,(nodeCount m.g).toNat⟩ (List.replicate (10*(nodeCount m.g).toNat) (.slice none 0 0)) (List.replicate (nodeCount m.g).toNat (.slice none 0 0)) (List.replicate (nodeCount m.g).toNat (.slice none 0 0)) from by rw[e9];exact HNk.out.put HZk.out)
    have HLz:Hid (Below w.heap.size w W9):=Lib.hid (by rw[e9];exact below_put (bw_trans HW3.out HLk.out (by omega)) (by omega))
    unfold putN at e9
    try dsimp only at e9
    rw[←e9]
    clear e9
    exact bodyPost_ret (results_cell_row2 Tryz.results14 _ _ (w.heap.size+2) 42 _ (0,0) _ rfl HBz.out Tryz.underlying42 rfl (by kernel_rfl)) rfl (by rw[HE.out,←HNN.out];exact⟨⟨_,_,_,_,rfl,HNz.out.lower (by omega)⟩,HLz.out⟩)
theorem zeroLoad_range (m:Mesh) (pa pb:List Int) (p:Packet):-1≤zeroLoad m pa pb p∧zeroLoad m pa pb p≤1000:=by
  unfold zeroLoad
  split
  · rename_i h
    simp only[Bool.and_eq_true] at h
    have h2:=packetOk_len h.2
    have hwl:=wt_len m (tabOf pa pb p.cls) p.src p.dst
    unfold walkP
    omega
  · omega
def slowTo (m:Mesh) (pa pb:List Int) (l:List Packet):Nat→Int
  | 0=>0
  | j+1=>max (slowTo m pa pb l j) (zeroLoad m pa pb (rp l j))
theorem slowTo_range (m:Mesh) (pa pb:List Int) (l:List Packet):∀ j,0≤slowTo m pa pb l j∧slowTo m pa pb l j≤1000:=by
  intro j
  induction j with
  | zero=>exact⟨Int.le_refl _,by simp[slowTo]⟩
  | succ j ih=>
    have:=zeroLoad_range m pa pb (rp l j)
    simp only[slowTo]
    omega
def slowN (m:Mesh) (pa pb:List Int) (l:List Packet):Int:=if deliverN m pa pb l<0∨l.length=0 then -1 else deliverN m pa pb l - slowTo m pa pb l l.length
theorem deliver_range (m:Mesh) (pa pb:List Int) (l:List Packet):-1≤deliverN m pa pb l∧deliverN m pa pb l≤400:=by
  have h:=toIdle_range (startN m pa pb l)
  unfold deliverN
  split
  · split
    · split
      · split
        · omega
        · omega
      · omega
    · omega
  · omega
theorem deliver_pos {m:Mesh} {pa pb:List Int} {l:List Packet} (h:0≤deliverN m pa pb l):classesOk m pa pb=true∧sendAllK (newN m pa pb) l=(l.length:Int):=by
  constructor
  · by_cases e:classesOk m pa pb=true
    · exact e
    · have:=deliver_no1 (l:=l) (by simpa using e:classesOk m pa pb=false)
      omega
  · by_cases e:sendAllK (newN m pa pb) l=(l.length:Int)
    · exact e
    · have:=deliver_no2 e
      omega
theorem snd_mesh (n:Net) (l:List Packet):∀ k,(sndTo n l k).mesh=n.mesh:=by
  intro k
  induction k with
  | zero=>rfl
  | succ k ih=>
    show (sndN (sndTo n l k) (rp l k)).mesh=_
    unfold sndN
    split
    · exact ih
    · exact ih
set_option maxHeartbeats 8000000 in
set_option maxRecDepth 100000 in
theorem impl_delivery (m:Mesh) (pa pb:List Int) (l:List Packet) (A B C D:Option Addr) (c d k n:Nat) (w:World) (hr:Kd.C (Kd.int .i64) w A m.br.length m.br) (hn:m.br.length≤2097152) (ha:Kd.C (Kd.int .i64) w B pa.length pa) (hka:pa.length≤2097152) (hb:Kd.C (Kd.int .i64) w C pb.length pb) (hkb:pb.length≤2097152) (hp:kP.C w D l.length l) (hkl:l.length≤2097152) :
    Calls Tryz.prog 41 #[.agg #[.int .i64 m.g.w,.int .i64 m.g.h,.slice A m.br.length c],.agg #[.slice B pa.length d,.slice C pb.length k],.slice D l.length n] w fun e w'=>e=.returned (.int .i64 (deliverN m pa pb l))∧Below w.heap.size w w':=by
  have HR:=Lib.hid hr
  have HA:=Lib.hid ha
  have HB:=Lib.hid hb
  have HP:=Lib.hid hp
  clear hr ha hb hp
  go_enter Tryz.func41,Tryz.ntmps41
  go_wp2_with fail
  refine(impl_NetNew m pa pb A B C c d k _ (by exact Kd.C_below HR.out bel) hn (by exact Kd.C_below HA.out bel) hka (by exact Kd.C_below HB.out bel) hkb).mono ?_
  rintro e w2 ⟨hg,Bb⟩
  obtain⟨uq,u4,u7,u8,rfl,HNu⟩:=hg
  have HNu:=Lib.hid HNu
  obtain⟨N0,hN0⟩:∃ z,netNewN m pa pb=z:=⟨_,rfl⟩
  have HNB0:Hid (NB N0):=Lib.hid (by rw[←hN0];exact netNew_nb hn hka hkb)
  rw[hN0] at HNu
  rw[hN0]
  have HE0:=Lib.hid hN0
  clear hN0
  obtain⟨u1,u2,u3,u4,u5,u6,u7,u8,v1,v2,v3,v4,v5,v6,v7,v8⟩:=uq
  dsimp only [netCells]
  have hbw2:Below w.heap.size w w2:=bw_then (bw_alloc _ (bw_alloc _ (bw_refl w))) Bb
  clear Bb
  cases hk:classesOk m pa pb
  · have HE:=Lib.hid (deliver_no1 (l:=l) hk)
    go_wp2
    go_ret
    exact⟨ret_int HE.out.symm,bel⟩
  have HK:=Lib.hid hk
  have HE1:Hid (N0=newN m pa pb):=Lib.hid (by rw[←HE0.out];unfold netNewN;rw[hk];rfl)
  clear hk
  go_wp2_with fail
  refine(impl_SendAll N0 l ⟨u1,u2,u3,u4,u5,u6,u7,u8,v1,v2,v3,v4,v5,v6,v7,v8⟩ D n _ ((HNu.out.reads HNB0.out).below bel) (by exact Kd.C_below HP.out bel) hkl).mono ?_
  rintro e w4 ⟨hg,hb4⟩
  obtain⟨sq,s4,s7,s8,rfl,HNs⟩:=hg
  have HNs:=Lib.hid HNs
  obtain⟨N1,hN1⟩:∃ z,sendAllN N0 l=z:=⟨_,rfl⟩
  obtain⟨k1,hk1⟩:∃ z,sendAllK N0 l=z:=⟨_,rfl⟩
  have HNB1:Hid (NB N1):=Lib.hid (by rw[←hN1];exact sendAll_nb HNB0.out)
  rw[hN1] at HNs
  rw[hN1,hk1]
  have HS:Hid (startN m pa pb l=N1):=Lib.hid (by unfold startN;rw[←HE1.out];exact hN1)
  have HK1:Hid (sendAllK (newN m pa pb) l=k1):=Lib.hid (by rw[←HE1.out];exact hk1)
  clear hN1 hk1
  obtain⟨s1,s2,s3,s4,s5,s6,s7,s8,t1,t2,t3,t4,t5,t6,t7,t8⟩:=sq
  dsimp only [netCells]
  have hbw4:Below w.heap.size w w4:=bw_then (bw_alloc _ hbw2) hb4
  clear hb4 hbw2
  by_cases h2:k1=(l.length:Int)
  case neg=>
    have HE:=Lib.hid (deliver_no2 (pa:=pa) (pb:=pb) (m:=m) (l:=l) (by rw[HK1.out];exact h2))
    go_wp2
    go_ret
    exact⟨ret_int HE.out.symm,bel⟩
  have H2:=Lib.hid h2
  subst h2
  go_wp2_with fail
  refine(impl_toIdle N1 ⟨s1,s2,s3,s4,s5,s6,s7,s8,t1,t2,t3,t4,t5,t6,t7,t8⟩ _ ((HNs.out.reads HNB1.out).below bel) (by rw[←HS.out];exact start_arrs m pa pb l)).mono ?_
  rintro e w6 ⟨hg,hb6⟩
  obtain⟨pq,p4,p7,p8,rfl,HNp⟩:=hg
  have HNp:=Lib.hid HNp
  obtain⟨N2,hN2⟩:∃ z,runIdleN N1=z:=⟨_,rfl⟩
  obtain⟨t,ht⟩:∃ z,toIdleN N1=z:=⟨_,rfl⟩
  have HNB2:Hid (NB N2):=Lib.hid (by rw[←hN2];exact runIdle_nb HNB1.out (by rw[←HS.out];exact start_arrs m pa pb l))
  rw[hN2] at HNp
  rw[hN2,ht]
  have HT:Hid (toIdleN (startN m pa pb l)=t):=Lib.hid (by rw[HS.out];exact ht)
  have HI:Hid (runIdleN (startN m pa pb l)=N2):=Lib.hid (by rw[HS.out];exact hN2)
  clear hN2 ht
  obtain⟨p1,p2,p3,p4,p5,p6,p7,p8,r1,r2,r3,r4,r5,r6,r7,r8⟩:=pq
  dsimp only [netCells]
  have hbw6:Below w.heap.size w w6:=bw_then (bw_alloc _ hbw4) hb6
  clear hb6 hbw4
  by_cases h3:t<0
  · have HE:=Lib.hid (deliver_no3 (m:=m) (pa:=pa) (pb:=pb) (l:=l) (by rw[HT.out];omega))
    go_wp2
    go_ret
    exact⟨ret_int HE.out.symm,bel⟩
  go_wp2_with fail
  refine(impl_Missing N2 l ⟨p1,p2,p3,p4,p5,p6,p7,p8,r1,r2,r3,r4,r5,r6,r7,r8⟩ D n _ ((HNp.out.reads HNB2.out).below bel) (by exact Kd.C_below HP.out bel) hkl).mono ?_
  rintro e w8 ⟨hg,hb8⟩
  obtain⟨v8,rfl,HM⟩:=hg
  obtain⟨Am,cm,rfl⟩:=Kd.R_slice HM
  have hbw8:Below w.heap.size w w8:=bw_then (bw_alloc _ hbw6) hb8
  clear hb8 hbw6 HM
  obtain⟨ml,hml⟩:∃ z,(missN N2 l).length=z:=⟨_,rfl⟩
  have HML:Hid ((missN (runIdleN (startN m pa pb l)) l).length=ml):=Lib.hid (by rw[HI.out];exact hml)
  rw[hml]
  clear hml
  by_cases h4:ml=0
  · subst h4
    have HE:=Lib.hid (deliver_yes HK.out (by rw[HK1.out]) (by rw[HT.out];omega) HML.out)
    rw[HT.out] at HE
    go_wp2
    go_ret
    exact⟨ret_int HE.out.symm,bel⟩
  · have HE:=Lib.hid (deliver_no4 (m:=m) (pa:=pa) (pb:=pb) (l:=l) (by rw[HML.out];exact h4))
    have h5:(0:Int)<(ml:Int):=by omega
    go_wp2
    go_ret
    exact⟨ret_int HE.out.symm,bel⟩
set_option maxHeartbeats 8000000 in
set_option maxRecDepth 100000 in
theorem impl_DrainTime (m:Mesh) (pa pb:List Int) (l:List Packet) (A B C D:Option Addr) (c d k n:Nat) (w:World) (hr:Kd.C (Kd.int .i64) w A m.br.length m.br) (hn:m.br.length≤2097152) (ha:Kd.C (Kd.int .i64) w B pa.length pa) (hka:pa.length≤2097152) (hb:Kd.C (Kd.int .i64) w C pb.length pb) (hkb:pb.length≤2097152) (hp:kP.C w D l.length l) (hkl:l.length≤2097152) :
    Calls Tryz.prog 9 #[.agg #[.int .i64 m.g.w,.int .i64 m.g.h,.slice A m.br.length c],.agg #[.slice B pa.length d,.slice C pb.length k],.slice D l.length n] w fun e w'=>e=.returned (.int .i64 (deliverN m pa pb l))∧Below w.heap.size w w':=by
  go_enter Tryz.func9,Tryz.ntmps9
  go_wp2_with (go_at_call 41;refine(impl_delivery m pa pb l _ _ _ _ _ _ _ _ _ (by exact Kd.C_below hr bel) hn (by exact Kd.C_below ha bel) hka (by exact Kd.C_below hb bel) hkb (by exact Kd.C_below hp bel) hkl).mono ?_;rintro e w1 ⟨rfl,Ba⟩;obtain⟨Ca,Fa,Za⟩:=bcell Ba;(try simp only[szs] at Za);have Bb:=far2;obtain⟨Cb,Fb,Zb⟩:=bcell Bb;(try simp only[szs] at Zb);try (first|obtain⟨Ya,Yb,Yc,Yd⟩:=lts4 Zb|obtain⟨Ya,Yb,Yc⟩:=lts3 Zb|obtain⟨Ya,Yb⟩:=lts2 Zb|have Ya:=lts1 Zb);have hb9:=Ba)
  go_ret
  exact⟨rfl,bel⟩
set_option maxHeartbeats 8000000 in
set_option maxRecDepth 100000 in
theorem impl_Slowdown (m:Mesh) (pa pb:List Int) (l:List Packet) (A B C D:Option Addr) (c d k n:Nat) (w:World) (hr:Kd.C (Kd.int .i64) w A m.br.length m.br) (hn:m.br.length≤2097152) (ha:Kd.C (Kd.int .i64) w B pa.length pa) (hka:pa.length≤2097152) (hb:Kd.C (Kd.int .i64) w C pb.length pb) (hkb:pb.length≤2097152) (hp:kP.C w D l.length l) (hkl:l.length≤2097152) :
    Calls Tryz.prog 13 #[.agg #[.int .i64 m.g.w,.int .i64 m.g.h,.slice A m.br.length c],.agg #[.slice B pa.length d,.slice C pb.length k],.slice D l.length n] w fun e w'=>e=.returned (.int .i64 (slowN m pa pb l))∧Below w.heap.size w w':=by
  have HR:=Lib.hid hr
  have HA:=Lib.hid ha
  have HB:=Lib.hid hb
  have HP:=Lib.hid hp
  clear hr ha hb hp
  have HSB:Hid (∀ j:Nat,0≤slowTo m pa pb l j∧slowTo m pa pb l j≤1000):=Lib.hid (slowTo_range m pa pb l)
  have HZB:Hid (∀ p:Packet,-1≤zeroLoad m pa pb p∧zeroLoad m pa pb p≤1000):=Lib.hid (zeroLoad_range m pa pb)
  go_enter Tryz.func13,Tryz.ntmps13
  go_wp2_with fail
  refine(impl_DrainTime m pa pb l A B C D c d k n _ (by exact Kd.C_below HR.out bel) hn (by exact Kd.C_below HA.out bel) hka (by exact Kd.C_below HB.out bel) hkb (by exact Kd.C_below HP.out bel) hkl).mono ?_
  rintro e w2 ⟨rfl,Bb⟩
  have hdr:=deliver_range m pa pb l
  obtain⟨t,ht⟩:∃ z,deliverN m pa pb l=z:=⟨_,rfl⟩
  rw[ht] at hdr
  rw[ht]
  have HT:=Lib.hid ht
  clear ht
  by_cases h0:t<0
  · have HE:Hid (slowN m pa pb l=-1):=Lib.hid (by unfold slowN;rw[if_pos (by rw[HT.out];exact .inl h0)])
    go_wp2
    go_ret
    exact⟨ret_int HE.out.symm,bel⟩
  by_cases h1:l.length=0
  · have HE:Hid (slowN m pa pb l=-1):=Lib.hid (by unfold slowN;rw[if_pos (.inr h1)])
    have h2:(l.length:Int)=0:=by omega
    go_wp2
    go_ret
    exact⟨ret_int HE.out.symm,bel⟩
  have HE:Hid (slowN m pa pb l=t - slowTo m pa pb l l.length):=Lib.hid (by unfold slowN;rw[if_neg (by rw[HT.out];omega),HT.out])
  have h2:((l.length:Int) == 0)=false:=beq_eq_false_iff_ne.2 (by omega)
  have h0b:decide (t<0)=false:=decide_eq_false (by omega)
  have hbw:Below w.heap.size w w2:=bw_then (bw_alloc _ (bw_alloc _ (bw_refl w))) Bb
  have bm:=(Box.alloc (Box.new w w.heap.size #[.int .i64 m.g.w,.int .i64 m.g.h,.slice A m.br.length c] 28 rfl) (.cells #[.slice B pa.length d,.slice C pb.length k] 32)).below Bb
  have bc:=(Box.new (w.alloc (.cells #[.int .i64 m.g.w,.int .i64 m.g.h,.slice A m.br.length c] 28)) (w.heap.size+1) #[.slice B pa.length d,.slice C pb.length k] 32 (by simp only[szs])).below Bb
  have HBM:=Lib.hid bm
  have HBC:=Lib.hid bc
  have HBW:=Lib.hid hbw
  have sz2:=bw_size Bb
  clear bm bc Bb hbw
  go_wp2_with fail
  go_loopw [8,24] (fun v i wr=>∃ j:Nat,i=.int .i64 j∧v=.int .i64 (slowTo m pa pb l j)∧j≤l.length∧Hid (Below w2.heap.size w2 wr)) (fun _ i _=>l.length - (intOf i).toNat)
  case atStart=>exact⟨0,rfl,rfl,Nat.zero_le _,Lib.hid (bw_refl w2)⟩
  case round=>
    obtain⟨j,rfl,rfl,hj,HBr⟩:=hrel
    have HWr:Hid (Below w.heap.size w wr):=Lib.hid (bw_then HBW.out HBr.out)
    by_cases hlt:j<l.length
    · have i0:(j:Int)<(l.length:Int):=by omega
      have j0:(0:Int)≤(j:Int):=by omega
      have hpk:=Kd.C_below HP.out HWr.out
      obtain⟨pb',po,eA,hpb,pk0,pk1,pk2,pk3,pk4⟩:=rdP_at hpk j hlt
      subst eA
      have x0:wr.cell? ⟨w.heap.size,0,none⟩=some (.int .i64 m.g.w):=(Box.below HBM.out HBr.out).get 0
      have x1:wr.cell? ⟨w.heap.size,1,none⟩=some (.int .i64 m.g.h):=(Box.below HBM.out HBr.out).get 1
      have x2:wr.cell? ⟨w.heap.size,2,none⟩=some (.slice A m.br.length c):=(Box.below HBM.out HBr.out).get 2
      have x3:wr.cell? ⟨w.heap.size+1,0,none⟩=some (.slice B pa.length d):=(Box.below HBC.out HBr.out).get 0
      have x4:wr.cell? ⟨w.heap.size+1,1,none⟩=some (.slice C pb.length k):=(Box.below HBC.out HBr.out).get 1
      have xl0:=(Box.below HBM.out HBr.out).lt
      have xl1:=(Box.below HBC.out HBr.out).lt
      obtain⟨P,hP⟩:∃ P,rp l j=P:=⟨_,rfl⟩
      rw[hP] at pk0 pk1 pk2 pk3 pk4
      have HS:Hid (slowTo m pa pb l (j+1)=max (slowTo m pa pb l j) (zeroLoad m pa pb P)):=Lib.hid (by rw[←hP];rfl)
      have hzb:=HZB.out P
      have hsb:=HSB.out j
      obtain⟨s,hs⟩:∃ s,slowTo m pa pb l j=s:=⟨_,rfl⟩
      rw[hs] at HS hsb
      rw[hs]
      clear hpk hP hs
      have hbr:Below wr.heap.size wr wr:=bw_refl wr
      go_wp2_with (go_at_call 10;refine(impl_ZeroLoad m pa pb P A B C c d k _ (Kd.C_below HR.out (bw_alloc _ HWr.out)) hn (Kd.C_below HA.out (bw_alloc _ HWr.out)) hka (Kd.C_below HB.out (bw_alloc _ HWr.out)) hkb).mono ?_;rintro e w1 ⟨rfl,Ba⟩)
      go_roundw
      case rel=>exact⟨j+1,by go_num,by rw[HS.out];exact congrArg _ (by split <;> omega),by omega,Lib.hid (bw_then (bw_alloc _ HBr.out) Ba)⟩
      case measure=>simp[intOf];omega
    · obtain rfl:j=l.length:=by omega
      have i0:¬ (l.length:Int)<(l.length:Int):=by omega
      have hsb:=HSB.out l.length
      go_wp2
      go_ret
      exact⟨ret_int (by rw[HE.out]),HWr.out⟩
end Go.Proofs.YtodbglncccgdbaaGreat
