/- Lemmas for laws of this seat, for all inputs: DrT DrU DrV DrW. -/
import Derived.Test.YtodbglncccgdbaaGreatQ1
import Derived.Test.YtodbglncccgdbaaGreatQ5
import Derived.Test.YtodbglncccgdbaaGreatQ6
import Derived.Test.YtodbglncccgdbaaGreatQ3
set_option linter.unusedVariables false
set_option linter.unusedSimpArgs false
namespace Go.Proofs.YtodbglncccgdbaaGreat
open Go.RowKit Go.Proofs.YtodbglncccgdbaaGreatW.PrintWords
open NoC
theorem spec_l05Column (x t:Int) (w:World):Calls Tryz.prog 161 #[.int .i64 x,.int .i64 t] w fun e w'=>e=.returned (.int .i64 (stdCol x t))∧w'=w:=by
  by_cases h:t<x
  · go_enter Tryz.func161,Tryz.ntmps161
    go_wp2
    go_ret
    exact⟨ret_int (by unfold stdCol;rw[if_pos h]),rfl⟩
  · go_enter Tryz.func161,Tryz.ntmps161
    go_wp2
    go_ret
    exact⟨ret_int (by unfold stdCol;rw[if_neg (by omega)]),rfl⟩
theorem spec_l05Row (x t:Int) (w:World):Calls Tryz.prog 162 #[.int .i64 x,.int .i64 t] w fun e w'=>e=.returned (.int .i64 (stdRow x t))∧w'=w:=by
  by_cases h:t<x
  · go_enter Tryz.func162,Tryz.ntmps162
    go_wp2
    go_ret
    exact⟨ret_int (by unfold stdRow;rw[if_pos h]),rfl⟩
  · go_enter Tryz.func162,Tryz.ntmps162
    go_wp2
    go_ret
    exact⟨ret_int (by unfold stdRow;rw[if_neg (by omega)]),rfl⟩
theorem std_yes {g:Grid} {r a b:Int} (h:¬ a=b) (hf:stdFirst g (stdRule r b) a b=true):stdPort g r a b=stdCol (a % g.w) (b % g.w):=by unfold stdPort;rw[if_neg h,if_pos hf]
theorem std_no {g:Grid} {r a b:Int} (h:¬ a=b) (hf:stdFirst g (stdRule r b) a b=false):stdPort g r a b=stdRow (a / g.w) (b / g.w):=by unfold stdPort;rw[if_neg h,if_neg (by simp[hf])]
set_option maxHeartbeats 4000000 in
theorem spec_l05Port (g:Grid) (r a b:Int) (w:World) (g1:1≤g.w) (g4:g.w≤4) (a0:0≤a) (a1:a≤15) (b0:0≤b) (b1:b≤15) (r1:1≤r) (r4:r≤4) :
  Calls Tryz.prog 94 #[.agg #[.int .i64 g.w,.int .i64 g.h],.int .i64 r,.int .i64 a,.int .i64 b] w fun e w'=>e=.returned (.int .i64 (stdPort g r a b))∧Below w.heap.size w w':=by
 have hx:a.tmod g.w=a % g.w:=Int.tmod_eq_emod_of_nonneg a0
 have hu:b.tmod g.w=b % g.w:=Int.tmod_eq_emod_of_nonneg b0
 have hy:a.tdiv g.w=a / g.w:=Int.tdiv_eq_ediv_of_nonneg a0
 have hv:b.tdiv g.w=b / g.w:=Int.tdiv_eq_ediv_of_nonneg b0
 have HQ:Hid (∀ x:Int,0≤x→x≤15→0≤x % g.w∧x % g.w≤15∧0≤x / g.w∧x / g.w≤15):=Lib.hid (fun x h0 h1=>by
  have e1:=Int.emod_nonneg x (show g.w≠0 by omega)
  have e2:=Int.emod_lt_of_pos x (show 0<g.w by omega)
  have e3:=Int.ediv_nonneg h0 (show 0≤g.w by omega)
  have e4:=Int.ediv_le_self g.w h0
  omega)
 obtain⟨q1,q2,q3,q4⟩:=HQ.out a a0 a1
 obtain⟨s1,s2,s3,s4⟩:=HQ.out b b0 b1
 have gne:¬ g.w=0:=by omega
 obtain⟨x,ex⟩:∃ x,a % g.w=x:=⟨_,rfl⟩
 obtain⟨y,ey⟩:∃ x,a / g.w=x:=⟨_,rfl⟩
 obtain⟨u,eu⟩:∃ x,b % g.w=x:=⟨_,rfl⟩
 obtain⟨v,ev⟩:∃ x,b / g.w=x:=⟨_,rfl⟩
 have EX:=Lib.hid ex;have EY:=Lib.hid ey;have EU:=Lib.hid eu;have EV:=Lib.hid ev
 by_cases hab:a=b
 ·have HE:Hid (stdPort g r a b=4):=Lib.hid (by unfold stdPort;rw[if_pos hab])
  subst hab
  go_enter Tryz.func94,Tryz.ntmps94
  go_wp2
  go_ret
  exact⟨ret_int HE.out.symm,bel⟩
 have HAB:=Lib.hid hab
 have fab:(a == b)=false:=beq_eq_false_iff_ne.2 hab
 have HY:Hid (stdFirst g (stdRule r b) a b=true→stdPort g r a b=stdCol x u):=Lib.hid (fun h=>by rw[std_yes hab h,ex,eu])
 have HN:Hid (stdFirst g (stdRule r b) a b=false→stdPort g r a b=stdRow y v):=Lib.hid (fun h=>by rw[std_no hab h,ey,ev])
 have HF:Hid (∀ k,stdRule r b=k→stdFirst g (stdRule r b) a b=if k=2 then decide (y=v) else if k=3 then decide (u<x) || decide (y=v) else !decide (x=u)):=Lib.hid (fun k hk=>by
  rw[hk]
  unfold stdFirst
  rw[ex,ey,eu,ev])
 rw[ex] at hx
 rw[eu] at hu
 rw[ey] at hy
 rw[ev] at hv
 clear hab
 rcases (by omega:r=1∨r=2∨r=3∨r=4) with rfl|rfl|rfl|rfl
 ·by_cases hxu:x=u
  ·have fxu:(x != u)=false:=by simp[hxu]
   have HH:=Lib.hid hxu
   clear hxu
   have HE:Hid (stdPort g 1 a b=stdRow y v):=Lib.hid (HN.out (by rw[HF.out 1 (by rfl)];simp[HH.out]))
   go_enter Tryz.func94,Tryz.ntmps94
   go_wp2_with (go_at_call 162;refine(spec_l05Row _ _ _).mono ?_;rintro e w' ⟨rfl,rfl⟩)
   go_ret
   exact⟨ret_int HE.out.symm,bel⟩
  ·have fxu:(x != u)=true:=by simp[hxu]
   have HH:=Lib.hid hxu
   clear hxu
   have HE:Hid (stdPort g 1 a b=stdCol x u):=Lib.hid (HY.out (by rw[HF.out 1 (by rfl)];simp[HH.out]))
   go_enter Tryz.func94,Tryz.ntmps94
   go_wp2_with (go_at_call 161;refine(spec_l05Column _ _ _).mono ?_;rintro e w' ⟨rfl,rfl⟩)
   go_ret
   exact⟨ret_int HE.out.symm,bel⟩
 ·obtain⟨fx,hfx⟩:∃ z,(x != u)=z:=⟨_,rfl⟩
  by_cases hyv:y=v
  ·have fyv:(y == v)=true:=by simp[hyv]
   have HH:=Lib.hid hyv
   clear hyv
   have HE:Hid (stdPort g 2 a b=stdCol x u):=Lib.hid (HY.out (by rw[HF.out 2 (by rfl)];simp[HH.out]))
   go_enter Tryz.func94,Tryz.ntmps94
   go_wp2_with (go_at_call 161;refine(spec_l05Column _ _ _).mono ?_;rintro e w' ⟨rfl,rfl⟩)
   go_ret
   exact⟨ret_int HE.out.symm,bel⟩
  ·have fyv:(y == v)=false:=by simp[hyv]
   have HH:=Lib.hid hyv
   clear hyv
   have HE:Hid (stdPort g 2 a b=stdRow y v):=Lib.hid (HN.out (by rw[HF.out 2 (by rfl)];simp[HH.out]))
   go_enter Tryz.func94,Tryz.ntmps94
   go_wp2_with (go_at_call 162;refine(spec_l05Row _ _ _).mono ?_;rintro e w' ⟨rfl,rfl⟩)
   go_ret
   exact⟨ret_int HE.out.symm,bel⟩
 ·obtain⟨fx,hfx⟩:∃ z,(x != u)=z:=⟨_,rfl⟩
  by_cases hlt:u<x
  ·have HH:=Lib.hid hlt
   have HE:Hid (stdPort g 3 a b=stdCol x u):=Lib.hid (HY.out (by rw[HF.out 3 (by rfl)];simp[HH.out]))
   go_enter Tryz.func94,Tryz.ntmps94
   go_wp2_with (go_at_call 161;refine(spec_l05Column _ _ _).mono ?_;rintro e w' ⟨rfl,rfl⟩)
   go_ret
   exact⟨ret_int HE.out.symm,bel⟩
  ·have HL:=Lib.hid hlt
   by_cases hyv:y=v
   ·have fyv:(y == v)=true:=by simp[hyv]
    have HH:=Lib.hid hyv
    clear hyv
    have HE:Hid (stdPort g 3 a b=stdCol x u):=Lib.hid (HY.out (by rw[HF.out 3 (by rfl)];simp[HH.out]))
    go_enter Tryz.func94,Tryz.ntmps94
    go_wp2_with (go_at_call 161;refine(spec_l05Column _ _ _).mono ?_;rintro e w' ⟨rfl,rfl⟩)
    go_ret
    exact⟨ret_int HE.out.symm,bel⟩
   ·have fyv:(y == v)=false:=by simp[hyv]
    have HH:=Lib.hid hyv
    clear hyv
    have HE:Hid (stdPort g 3 a b=stdRow y v):=Lib.hid (HN.out (by rw[HF.out 3 (by rfl)];simp[HH.out];exact Int.not_lt.1 HL.out))
    go_enter Tryz.func94,Tryz.ntmps94
    go_wp2_with (go_at_call 162;refine(spec_l05Row _ _ _).mono ?_;rintro e w' ⟨rfl,rfl⟩)
    go_ret
    exact⟨ret_int HE.out.symm,bel⟩
 ·rcases (by omega:b % 2=0∨b % 2=1) with Bb|Bb
  ·have HP:=Lib.hid Bb
   by_cases hxu:x=u
   ·have fxu:(x != u)=false:=by simp[hxu]
    have HH:=Lib.hid hxu
    clear hxu
    have HE:Hid (stdPort g 4 a b=stdRow y v):=Lib.hid (HN.out (by rw[HF.out 1 (by unfold stdRule;rw[if_pos rfl,HP.out];rfl)];simp[HH.out]))
    go_enter Tryz.func94,Tryz.ntmps94
    go_wp2_with (go_at_call 162;refine(spec_l05Row _ _ _).mono ?_;rintro e w' ⟨rfl,rfl⟩)
    go_ret
    exact⟨ret_int HE.out.symm,bel⟩
   ·have fxu:(x != u)=true:=by simp[hxu]
    have HH:=Lib.hid hxu
    clear hxu
    have HE:Hid (stdPort g 4 a b=stdCol x u):=Lib.hid (HY.out (by rw[HF.out 1 (by unfold stdRule;rw[if_pos rfl,HP.out];rfl)];simp[HH.out]))
    go_enter Tryz.func94,Tryz.ntmps94
    go_wp2_with (go_at_call 161;refine(spec_l05Column _ _ _).mono ?_;rintro e w' ⟨rfl,rfl⟩)
    go_ret
    exact⟨ret_int HE.out.symm,bel⟩
  ·have HP:=Lib.hid Bb
   obtain⟨fx,hfx⟩:∃ z,(x != u)=z:=⟨_,rfl⟩
   by_cases hyv:y=v
   ·have fyv:(y == v)=true:=by simp[hyv]
    have HH:=Lib.hid hyv
    clear hyv
    have HE:Hid (stdPort g 4 a b=stdCol x u):=Lib.hid (HY.out (by rw[HF.out 2 (by unfold stdRule;rw[if_pos rfl,HP.out];rfl)];simp[HH.out]))
    go_enter Tryz.func94,Tryz.ntmps94
    go_wp2_with (go_at_call 161;refine(spec_l05Column _ _ _).mono ?_;rintro e w' ⟨rfl,rfl⟩)
    go_ret
    exact⟨ret_int HE.out.symm,bel⟩
   ·have fyv:(y == v)=false:=by simp[hyv]
    have HH:=Lib.hid hyv
    clear hyv
    have HE:Hid (stdPort g 4 a b=stdRow y v):=Lib.hid (HN.out (by rw[HF.out 2 (by unfold stdRule;rw[if_pos rfl,HP.out];rfl)];simp[HH.out]))
    go_enter Tryz.func94,Tryz.ntmps94
    go_wp2_with (go_at_call 162;refine(spec_l05Row _ _ _).mono ?_;rintro e w' ⟨rfl,rfl⟩)
    go_ret
    exact⟨ret_int HE.out.symm,bel⟩
section
variable {ops:Array Oper} {o:Oper} {a:Act} {Kc:Act→World→Prop} {Q':Exit→Act→World→Prop}
theorem app_intS {B:Nat} {W:World} (hw:Region.wanted o (yielded ops a.tmps)=true) (s x:Operand)
    (ho:o.op=.call { callee:=.builtin .append,args:=#[s,x],argTypes:=#[26,26] })
    (v:Value) (xs:List Int) (y:Int) (hs:a.eval s=v) (hx:a.eval x=.slice (some ⟨W.heap.size,0,none⟩) 1 1)
    (HO:Kd.R (Kd.int .i64) 3 W B (fun _=>True) v xs) (hB:B≤W.heap.size) (hl:xs.length≤100000000)
    (h:∀ v1 w1,Kd.R (Kd.int .i64) 3 w1 B (fun _=>True) v1 (xs++[y])→W.grownBy w1 v.ownBlock→Kc (a.put o.dst v1) w1) :
    if Region.wanted o (yielded ops a.tmps)=true then Oper.wp Tryz.prog o a (W.alloc (.cells #[.int .i64 y] 3)) Kc Q' else Kc (a.put o.dst undef) (W.alloc (.cells #[.int .i64 y] 3)):=
  Kd.R_append_step (P:=Tryz.prog) (Kd.int .i64) (w0:=W) B hw s x 26 3 (.int .i64 0) 8 ho Tryz.underlying26 info_int rfl (by decide) (by omega) v xs y [.int .i64 y] (fun _=>True) (fun _=>False) hs hx rfl (fun _ h=>h.elim) (fun _ _=>trivial) HO (Below.refl _ _) hB (by omega) (fun v1 w1 h1 _ h3 _=>h v1 w1 h1 h3)
end
theorem makeTo_len (g:Grid) (r:Int) (k:Nat):(makeTo g r k).length=k:=by simp[makeTo]
theorem makeTo_succ (g:Grid) (r:Int) (k:Nat):makeTo g r (k+1)=makeTo g r k++[stdPort g r ((k / (nodeCount g).toNat:Nat):Int) ((k % (nodeCount g).toNat:Nat):Int)]:=by simp[makeTo,List.range_succ]
theorem low_set {B b:Nat} {w0 W:World} (h:Below B w0 W) (hb:B≤b) (j:Nat) (u:Value):Below B w0 (W.setCell ⟨b,j,none⟩ u):=
  ⟨h.os,h.tape,h.output,by have:=h.size;simp only[World.size_setCell];exact this,fun i hi=>(Below.heap_setCell W ⟨b,j,none⟩ u i (fun e=>by
    have e2:i=b:=e
    omega)).trans (h.block i hi)⟩
theorem low_then' {B C:Nat} {w0 w1 W:World} (h:Below B w0 w1) (k:Below C w1 W) (hc:B≤C):Below B w0 W:=⟨k.os.trans h.os,k.tape.trans h.tape,k.output.trans h.output,Nat.le_trans h.size k.size,fun i hi=>(k.block i (by omega)).trans (h.block i hi)⟩
theorem box_low' {B:Nat} {w w1:World} {b:Nat} {cs:Array Value} (h:Box w b cs) (hb:Below B w w1) (hB:b<B):Box w1 b cs:=⟨Nat.lt_of_lt_of_le h.lt hb.size,fun o=>by
  rw[←h.get o]
  unfold World.cell?
  rw[hb.block b hB]⟩
theorem low_then {B:Nat} {w0 W W1:World} (h:Below B w0 W) (k:Below W.heap.size W W1) (hB:B≤w0.heap.size):Below B w0 W1:=⟨k.os.trans h.os,k.tape.trans h.tape,k.output.trans h.output,Nat.le_trans h.size k.size,fun i hi=>(k.block i (Nat.lt_of_lt_of_le hi (Nat.le_trans hB h.size))).trans (h.block i hi)⟩
set_option maxHeartbeats 8000000 in
set_option maxRecDepth 100000 in
theorem spec_l05Make (g:Grid) (r:Int) (w:World) (g1:1≤g.w) (g2:g.w≤4) (g3:1≤g.h) (g4:g.h≤4) (r1:1≤r) (r4:r≤4) :
    Calls Tryz.prog 38 #[.agg #[.int .i64 g.w,.int .i64 g.h],.int .i64 r] w fun e w'=>GotTab w w' (makeT g r) e∧Below w.heap.size w w':=by
  have hc16:=count_le g
  obtain⟨K,hK⟩:∃ K:Nat,nodeCount g=(K:Int):=⟨(nodeCount g).toNat,by omega⟩
  have K16:K≤16:=by omega
  have K1:1≤K:=by
    have:nodeCount g=g.w*g.h:=by unfold nodeCount gridOk inside;simp[g1,g2,g3,g4]
    have:=Int.mul_le_mul g1 g3 (by omega) (by omega)
    omega
  have HK:=Lib.hid hK
  have HKN:Hid ((nodeCount g).toNat=K):=Lib.hid (by omega)
  have HKK:Hid (K*K≤256):=Lib.hid (Nat.mul_le_mul K16 K16)
  obtain⟨KK,hKK⟩:∃ z,z=K*K:=⟨_,rfl⟩
  have HKE:=Lib.hid hKK
  have hKK2:KK≤256:=by rw[hKK];exact HKK.out
  have hwK:IntKind.i64.wrap ((K:Int)*(K:Int))=(KK:Int):=by
    rw[IntWalk.i64_in _ (by have:((K:Int)*(K:Int))=((K*K:Nat):Int):=by push_cast;rfl
                             omega),hKK]
    push_cast
    rfl
  have hwK2:(K:Int)*(K:Int)=(KK:Int):=by rw[hKK];push_cast;rfl
  have HE:Hid (makeT g r=makeTo g r KK):=Lib.hid (by unfold makeT;rw[HKN.out,hKK])
  clear hc16 hK hKK
  rw[HE.out]
  obtain⟨wa,ewa⟩:∃ z,z=((w.alloc (.cells #[.int .i64 g.w,.int .i64 g.h] 25)).alloc (.cells #[.slice none 0 0] 30)).alloc (.cells #[.slice none 0 0] 30):=⟨_,rfl⟩
  have hwa:Below w.heap.size w wa:=by rw[ewa];exact bw_alloc _ (bw_alloc _ (bw_alloc _ (bw_refl w)))
  have zwa:wa.heap.size=w.heap.size+3:=by rw[ewa];simp only[szs]
  have HG:Hid (Box wa w.heap.size #[.int .i64 g.w,.int .i64 g.h]):=Lib.hid (by rw[ewa];exact((Box.new w w.heap.size _ 25 rfl).alloc _).alloc _)
  have HR1:Hid (wa.heap[w.heap.size+1]?=some (.cells #[.slice none 0 0] 30 (0,0))):=Lib.hid (by
    rw[ewa]
    have h:=blk_alloc (blk_new (w.alloc (.cells #[.int .i64 g.w,.int .i64 g.h] 25)) (.cells #[.slice none 0 0] 30)) (.cells #[.slice none 0 0] 30)
    simp only[szs] at h
    exact h)
  have HT1:Hid (wa.heap[w.heap.size+2]?=some (.cells #[.slice none 0 0] 30 (0,0))):=Lib.hid (by
    rw[ewa]
    have h:=blk_new ((w.alloc (.cells #[.int .i64 g.w,.int .i64 g.h] 25)).alloc (.cells #[.slice none 0 0] 30)) (.cells #[.slice none 0 0] 30)
    simp only[szs] at h
    exact h)
  have x0:(((w.alloc (.cells #[.int .i64 g.w,.int .i64 g.h] 25)).alloc (.cells #[.slice none 0 0] 30)).alloc (.cells #[.slice none 0 0] 30)).cell? ⟨w.heap.size,0,none⟩=some (.int .i64 g.w):=by rw[←ewa];exact HG.out.get 0
  have x1:(((w.alloc (.cells #[.int .i64 g.w,.int .i64 g.h] 25)).alloc (.cells #[.slice none 0 0] 30)).alloc (.cells #[.slice none 0 0] 30)).cell? ⟨w.heap.size,1,none⟩=some (.int .i64 g.h):=by rw[←ewa];exact HG.out.get 1
  go_enter Tryz.func38,Tryz.ntmps38
  go_wp2_with fail
  rw[←ewa]
  clear x0 x1 ewa
  refine(spec_NodeCount g _).mono ?_
  rintro e w2 ⟨rfl,Bb⟩
  rw[HK.out]
  have HB2:=Lib.hid (bw_then hwa Bb)
  have HG2:=Lib.hid (HG.out.below Bb)
  have HR2:=Lib.hid (blk_below HR1.out Bb)
  have HT2:=Lib.hid (blk_below HT1.out Bb)
  have z2:=bw_size Bb
  clear Bb hwa HG HR1 HT1
  go_wp2
  go_loopw [7] (fun i wr=>∃ (k:Nat) (A:Option Addr) (c:Nat),i=.int .i64 k∧k≤KK∧Hid (Kd.R (Kd.int .i64) 3 wr (w.heap.size+3) (fun _=>True) (.slice A k c) (makeTo g r k))∧Hid (wr.heap[w.heap.size+2]?=some (.cells #[.slice A k c] 30 (0,0)))∧Hid (wr.heap[w.heap.size+1]?=some (.cells #[.slice none 0 0] 30 (0,0)))∧Hid (Box wr w.heap.size #[.int .i64 g.w,.int .i64 g.h])∧Hid (Below w.heap.size w wr)∧w.heap.size+3≤wr.heap.size) (fun i _=>KK - (intOf i).toNat)
  case atStart=>exact⟨0,none,0,rfl,Nat.zero_le _,Lib.hid (Kd.R_nil _ _ _ _ _),HT2,HR2,HG2,HB2,by omega⟩
  case round=>
    obtain⟨k,A,c,rfl,hk,HO,HT,HR,HG,HB,zr⟩:=hrel
    have hlen:=makeTo_len g r k
    by_cases hlt:k<KK
    · have i0:(k:Int)<(KK:Int):=by omega
      have k0:(0:Int)≤(k:Int):=by omega
      have kne:¬ (K:Int)=0:=by omega
      have hq:(k:Int).tdiv (K:Int)=((k / K:Nat):Int):=by rw[Int.tdiv_eq_ediv_of_nonneg k0];rfl
      have hm:(k:Int).tmod (K:Int)=((k % K:Nat):Int):=by rw[Int.tmod_eq_emod_of_nonneg k0];rfl
      have hq2:(k:Int) / (K:Int)=((k / K:Nat):Int):=rfl
      have hm2:(k:Int) % (K:Int)=((k % K:Nat):Int):=rfl
      have dk:k / K≤15:=by
        have:k / K<K:=(Nat.div_lt_iff_lt_mul (by omega)).2 (by rw[←HKE.out];exact hlt)
        omega
      have mk:k % K≤15:=by have:=Nat.mod_lt k (show 0<K by omega);omega
      obtain⟨qd,hqd⟩:∃ z,k / K=z:=⟨_,rfl⟩
      obtain⟨md,hmd⟩:∃ z,k % K=z:=⟨_,rfl⟩
      rw[hqd] at hq hq2 dk
      rw[hmd] at hm hm2 mk
      obtain⟨p,hp⟩:∃ p,stdPort g r (qd:Int) (md:Int)=p:=⟨_,rfl⟩
      have HS:Hid (makeTo g r (k+1)=makeTo g r k++[p]):=Lib.hid (by rw[makeTo_succ,HKN.out,hqd,hmd,hp])
      have HCALL:Hid (∀ W,Calls Tryz.prog 94 #[.agg #[.int .i64 g.w,.int .i64 g.h],.int .i64 r,.int .i64 (qd:Int),.int .i64 (md:Int)] W fun e w'=>e=.returned (.int .i64 p)∧Below W.heap.size W w'):=Lib.hid (fun W=>by
        have h:=spec_l05Port g r (qd:Int) (md:Int) W g1 g2 (by omega) (by omega) (by omega) (by omega) r1 r4
        rw[hp] at h
        exact h)
      have HQ:=Lib.hid hq;have HM:=Lib.hid hm;have HQ2:=Lib.hid hq2;have HM2:=Lib.hid hm2
      clear hqd hmd hp hq hm hq2 hm2
      go_wp2_with fail
      refine wp_region_tz 0 (fun _=>.cells #[] 0) (fun _ _=>undef) (fun W=>Below (w.heap.size+3) wr W) 14 [(0,.quiet),(1,.quiet),(2,.quiet),(3,.quiet),(4,.quiet),(5,.quiet),(6,.quiet),(7,.quiet),(8,.quiet),(9,.quiet),(10,.chain),(11,.chain),(12,.chain),(13,.quiet)] (by kernel_rfl) (by kernel_rfl) (by kernel_rfl) (by kernel_rfl) (by kernel_rfl) (by kernel_rfl) (by kernel_rfl) (by kernel_rfl) ((bw_drew (bw_refl _)).mono zr) ⟨fun W o h=>low_then h (bw_alloc _ (bw_refl _)) zr,fun W h=>Nat.zero_le _⟩ (fun W=>W=wr.drew) (rfl) (fun e=>by cases e) ?_
      refine wpTz_v (some 18) (.pointer (some ⟨w.heap.size+2,0,none⟩)) rfl rfl (by rfl) (fun W hC=>?_) ?_
      · clear hC
        go_simp
        try rfl
      try simp only[Act.put,nms]
      refine wpTz_v (some 19) (.slice A k c) rfl rfl (by rfl) (fun W hC=>?_) ?_
      · have ht:W.heap[w.heap.size+2]?=some (.cells #[.slice A k c] 30 (0,0)):=(hC.block _ (by omega)).trans HT.out
        have h0:W.cell? ⟨w.heap.size+2,0,none⟩=some (.slice A k c):=(blk_cell ht 0).trans rfl
        clear ht
        clear hC
        go_simp
        try rfl
      try simp only[Act.put,nms]
      refine wpTz_v (some 20) (.agg #[.int .i64 g.w,.int .i64 g.h]) rfl rfl (by rfl) (fun W hC=>?_) ?_
      · have h0:W.cell? ⟨w.heap.size,0,none⟩=some (.int .i64 g.w):=(box_low' HG.out hC (by omega)).get 0
        have h1:W.cell? ⟨w.heap.size,1,none⟩=some (.int .i64 g.h):=(box_low' HG.out hC (by omega)).get 1
        clear hC
        go_simp
        try rfl
      try simp only[Act.put,nms]
      refine wpTz_v (some 21) (.int .i64 r) rfl rfl (by rfl) (fun W hC=>?_) ?_
      · clear hC
        go_simp
        try rfl
      try simp only[Act.put,nms]
      refine wpTz_v (some 22) (.int .i64 (k:Int)) rfl rfl (by rfl) (fun W hC=>?_) ?_
      · clear hC
        go_simp
        try rfl
      try simp only[Act.put,nms]
      refine wpTz_v (some 23) (.int .i64 (K:Int)) rfl rfl (by rfl) (fun W hC=>?_) ?_
      · clear hC
        go_simp
        try rfl
      try simp only[Act.put,nms]
      refine wpTz_v (some 24) (.int .i64 (qd:Int)) rfl rfl (by rfl) (fun W hC=>?_) ?_
      · have kz:¬ K=0:=by omega
        have hwq:IntKind.i64.wrap (qd:Int)=(qd:Int):=IntWalk.i64_in _ (by omega)
        have e1:=HQ.out
        have e2:=HQ2.out
        have e3:=HM.out
        have e4:=HM2.out
        clear hC
        go_simp
        try rfl
      try simp only[Act.put,nms]
      refine wpTz_v (some 25) (.int .i64 (k:Int)) rfl rfl (by rfl) (fun W hC=>?_) ?_
      · clear hC
        go_simp
        try rfl
      try simp only[Act.put,nms]
      refine wpTz_v (some 26) (.int .i64 (K:Int)) rfl rfl (by rfl) (fun W hC=>?_) ?_
      · clear hC
        go_simp
        try rfl
      try simp only[Act.put,nms]
      refine wpTz_v (some 27) (.int .i64 (md:Int)) rfl rfl (by rfl) (fun W hC=>?_) ?_
      · have kz:¬ K=0:=by omega
        have hwq:IntKind.i64.wrap (qd:Int)=(qd:Int):=IntWalk.i64_in _ (by omega)
        have e1:=HQ.out
        have e2:=HQ2.out
        have e3:=HM.out
        have e4:=HM2.out
        clear hC
        go_simp
        try rfl
      try simp only[Act.put,nms]
      refine wpTz_c (some 28) rfl rfl (by rfl) wr (fun _=>.int .i64 p) (fun y W=>W=y∧Below wr.heap.size wr y) (fun W hF hC=>?_) (fun yw=>?_)
      · subst hF
        refine LoOp.enter (by go_simp;first|done|exact⟨rfl,rfl⟩|rfl) ?_
        refine(HCALL.out _).mono ?_
        rintro e W1 ⟨rfl,Ba⟩
        exact⟨_,rfl,W1,rfl,low_then hC Ba zr,rfl,bw_then (bw_drew (bw_refl wr)) Ba⟩
      try simp only[Act.put,nms]
      refine wpTz_c (some 29) rfl rfl (by rfl) () (fun _=>.slice (some ⟨yw.heap.size,0,none⟩) 1 1) (fun _ W=>W=yw.alloc (.cells #[.int .i64 p] 3)∧Below wr.heap.size wr yw) (fun W hF hC=>?_) (fun _=>?_)
      · obtain⟨rfl,hby⟩:=hF
        refine LoOp.val (v:=.slice (some ⟨W.heap.size,0,none⟩) 1 1) (w1:=W.alloc (.cells #[.int .i64 p] 3)) ?_ ⟨(),rfl,low_then hC (bw_alloc _ (bw_refl _)) zr,rfl,hby⟩
        clear hC hby
        go_simp
        try rfl
      try simp only[Act.put,nms]
      refine wpTz_c (some 30) rfl rfl (by rfl) ((none,0):Option Addr × Nat) (fun y=>.slice y.1 (k+1) y.2) (fun y W9=>Kd.R (Kd.int .i64) 3 W9 (w.heap.size+3) (fun _=>True) (.slice y.1 (k+1) y.2) (makeTo g r k++[p])∧True) (fun W hF hC=>?_) (fun yv=>?_)
      · obtain⟨rfl,hby⟩:=hF
        have HOy:=Kd.R_below HO.out hby
        have hCy:Below (w.heap.size+3) wr yw:=hby.mono zr
        refine LoOp.of_if (ops:=#[]) rfl rfl (by simp) (by rfl) (app_intS (ops:=#[]) (W:=yw) (B:=w.heap.size+3) (by rfl) (.tmp 19) (.tmp 29) rfl (.slice A k c) (makeTo g r k) p rfl rfl HOy (by have:=hby.size;omega) (by rw[makeTo_len];omega) ?_)
        intro v9 w9 H9 hg9
        obtain⟨A9,d9,rfl⟩:=Kd.R_slice H9
        have el:(makeTo g r k++[p]).length=k+1:=by rw[List.length_append,makeTo_len];rfl
        rw[el] at H9
        exact⟨(A9,d9),by show Value.slice A9 (makeTo g r k++[p]).length d9=_;rw[el],hCy.grown hg9 (by have:=hby.size;omega) (fun j hj=>Kd.R_base HOy j hj),H9,trivial⟩
      try simp only[Act.put,nms]
      refine wpTz_v (some 31) (.pointer (some ⟨w.heap.size+2,0,none⟩)) rfl rfl (by rfl) (fun W hC=>?_) ?_
      · clear hC
        go_simp
        try rfl
      try simp only[Act.put,nms]
      refine wpTz_z (fun w8 hF hC=>?_)
      obtain⟨A9,c9⟩:=yv
      obtain⟨H9,hB9⟩:=hF
      dsimp only at H9
      have HG9:=Lib.hid (box_low' HG.out hC (by omega))
      have HR9:Hid (w8.heap[w.heap.size+1]?=some (.cells #[.slice none 0 0] 30 (0,0))):=Lib.hid ((hC.block _ (by omega)).trans HR.out)
      have hT9:w8.heap[w.heap.size+2]?=some (.cells #[.slice A k c] 30 (0,0)):=(hC.block _ (by omega)).trans HT.out
      have y0:w8.cell? ⟨w.heap.size+2,0,none⟩=some (.slice A k c):=(blk_cell hT9 0).trans rfl
      have yf:w8.frozen? ⟨w.heap.size+2,0,none⟩=false:=blk_frozen hT9 0
      have yl:w.heap.size+2<w8.heap.size:=blk_lt hT9
      have hTz:(w8.setCell ⟨w.heap.size+2,0,none⟩ (.slice A9 (k+1) c9)).heap[w.heap.size+2]?=some (.cells #[.slice A9 (k+1) c9] 30 (0,0)):=(blk_set hT9 0 _).trans rfl
      have HTz:=Lib.hid hTz
      have HRz:Hid ((w8.setCell ⟨w.heap.size+2,0,none⟩ (.slice A9 (k+1) c9)).heap[w.heap.size+1]?=some (.cells #[.slice none 0 0] 30 (0,0))):=Lib.hid (blk_far (p:=⟨w.heap.size+2,0,none⟩) HR9.out (by show w.heap.size+1≠w.heap.size+2;omega) _)
      have HGz:Hid (Box (w8.setCell ⟨w.heap.size+2,0,none⟩ (.slice A9 (k+1) c9)) w.heap.size #[.int .i64 g.w,.int .i64 g.h]):=Lib.hid (HG9.out.grown (grown_cell w8 (w.heap.size+2) 0 _) (by intro e;injection e with e;omega))
      have HOz:Hid (Kd.R (Kd.int .i64) 3 (w8.setCell ⟨w.heap.size+2,0,none⟩ (.slice A9 (k+1) c9)) (w.heap.size+3) (fun _=>True) (.slice A9 (k+1) c9) (makeTo g r (k+1))):=Lib.hid (by rw[HS.out];exact R_off H9 (by omega) 0 _)
      have HBz:Hid (Below w.heap.size w (w8.setCell ⟨w.heap.size+2,0,none⟩ (.slice A9 (k+1) c9))):=Lib.hid (low_set (low_then' HB.out hC (by omega)) (by omega) 0 _)
      have zz:w.heap.size+3≤(w8.setCell ⟨w.heap.size+2,0,none⟩ (.slice A9 (k+1) c9)).heap.size:=by simp only[szs];have:=hC.size;omega
      clear hTz hT9 hC H9 hB9
      refine⟨_,rfl,by rfl,?_⟩
      go_simp
      go_wp2
      go_roundw
      case rel=>exact⟨k+1,A9,c9,by go_num,by omega,HOz,HTz,HRz,HGz,HBz,zz⟩
      case measure=>simp[intOf];omega
    · obtain rfl:k=KK:=by omega
      have i0:¬ (k:Int)<(k:Int):=by omega
      have y0:wr.cell? ⟨w.heap.size+2,0,none⟩=some (.slice A k c):=(blk_cell HT.out 0).trans rfl
      have yl:w.heap.size+2<wr.heap.size:=blk_lt HT.out
      have v0:wr.cell? ⟨w.heap.size+1,0,none⟩=some (.slice none 0 0):=(blk_cell HR.out 0).trans rfl
      have vf:wr.frozen? ⟨w.heap.size+1,0,none⟩=false:=blk_frozen HR.out 0
      have vl:w.heap.size+1<wr.heap.size:=blk_lt HR.out
      have HRz:Hid ((wr.setCell ⟨w.heap.size+1,0,none⟩ (.slice A k c)).heap[w.heap.size+1]?=some (.cells #[.slice A k c] 30 (0,0))):=Lib.hid ((blk_set HR.out 0 _).trans rfl)
      have HOz:=Lib.hid (R_off HO.out (show w.heap.size+1<w.heap.size+3 by omega) 0 (.slice A k c))
      have HBz:Hid (Below w.heap.size w (wr.setCell ⟨w.heap.size+1,0,none⟩ (.slice A k c))):=Lib.hid (low_set HB.out (by omega) 0 _)
      have HLK:=Lib.hid hlen
      clear hlen
      go_wp2
      exact bodyPost_ret (results_cell_row Tryz.results38 _ _ (w.heap.size+1) 30 _ (0,0) _ rfl HRz.out Tryz.underlying30 rfl (by kernel_rfl)) rfl ⟨⟨_,rfl,Kd.R_lower HOz.out (by omega)⟩,HBz.out⟩
theorem count_in {g:Grid} (g1:1≤g.w) (g2:g.w≤4) (g3:1≤g.h) (g4:g.h≤4):nodeCount g=g.w*g.h:=by unfold nodeCount gridOk inside;simp[g1,g2,g3,g4]
theorem arr_gt {w w1:World} {g t b:Nat} {cs:Array Value} (h:Arr w g t cs) (hg:w.grownBy w1 (some b)) (hne:g≠b):Arr w1 g t cs:=(hg.block g h.lt (by intro e;injection e with e;exact hne e)).trans h
set_option maxHeartbeats 4000000 in
theorem spec_l14Grid (b B0:Nat) (w:World) (HC:Cur w b B0):Calls Tryz.prog 37 #[.pointer (some ⟨b,0,none⟩)] w fun e w'=>∃ g:Grid,e=.returned (.agg #[.int .i64 g.w,.int .i64 g.h])∧1≤g.w∧g.w≤4∧1≤g.h∧g.h≤4∧2≤nodeCount g∧Cur w' b B0∧w.grownBy w' (some b):=by
  have hb:=HC.lt
  have HR1:Arr (w.alloc (.cells #[.int .i64 0,.int .i64 0] 25)) w.heap.size 25 #[.int .i64 0,.int .i64 0]:=Arr.new w _ _ _ rfl
  go_enter Tryz.func37,Tryz.ntmps37
  go_wp2_with fail
  refine(spec_l02Grid b B0 _ (HC.below (bw_alloc _ (bw_refl _)))).mono ?_
  rintro e w2 ⟨g,rfl,p1,p2,p3,p4,HC2,hg2⟩
  have z2:=hg2.size
  simp only[szs] at z2
  have HR2:Arr w2 w.heap.size 25 #[.int .i64 0,.int .i64 0]:=arr_gt HR1 hg2 (by omega)
  have HG2:w.grownBy w2 (some b):=grown_trans (gt_alloc _ (World.grownBy.refl _ _)) hg2
  have HT3:Arr (w2.alloc (.cells #[.int .i64 g.w,.int .i64 g.h] 25)) w2.heap.size 25 #[.int .i64 g.w,.int .i64 g.h]:=Arr.new w2 _ _ _ rfl
  have HR3:=HR2.below (bw_alloc (.cells #[.int .i64 g.w,.int .i64 g.h] 25) (bw_refl w2))
  have HC3:=HC2.below (bw_alloc (.cells #[.int .i64 g.w,.int .i64 g.h] 25) (bw_refl w2))
  have HG3:w.grownBy (w2.alloc (.cells #[.int .i64 g.w,.int .i64 g.h] 25)) (some b):=gt_alloc _ HG2
  go_wp2_with fail
  refine(spec_NodeCount g _).mono ?_
  rintro e w4 ⟨rfl,hb4⟩
  have HT4:=HT3.below hb4
  have HR4:=HR3.below hb4
  have HC4:=HC3.below hb4
  have HG4:w.grownBy w4 (some b):=grown_trans HG3 (grown_below _ hb4)
  have z4:=bw_size hb4
  simp only[szs] at z4
  clear hb4 HG3 HC3 HR3 HT3 HG2 HR2 HR1 HC2 hg2
  have hcn:=count_in p1 p2 p3 p4
  obtain⟨c,hc⟩:∃ c,nodeCount g=c:=⟨_,rfl⟩
  rw[hc]
  have t0:w4.cell? ⟨w2.heap.size,0,none⟩=some (.int .i64 g.w):=HT4.cell 0
  have t1:w4.cell? ⟨w2.heap.size,1,none⟩=some (.int .i64 g.h):=HT4.cell 1
  have f0:=HT4.frozen 0
  have tl:=HT4.lt
  have r0:w4.cell? ⟨w.heap.size,0,none⟩=some (.int .i64 0):=HR4.cell 0
  have r1:w4.cell? ⟨w.heap.size,1,none⟩=some (.int .i64 0):=HR4.cell 1
  have e0:=HR4.frozen 0
  have e1:=HR4.frozen 1
  have rl:=HR4.lt
  by_cases h2:c<2
  · have hw:g.w=1∧g.h=1:=by
      have h1:g.w*g.h<2:=by omega
      have a:=Int.mul_le_mul_of_nonneg_left p3 (show 0≤g.w by omega)
      have b:=Int.mul_le_mul_of_nonneg_right p1 (show 0≤g.h by omega)
      omega
    have HN:Hid (2≤nodeCount ⟨2,g.h⟩):=Lib.hid (by rw[count_in (g:=⟨2,g.h⟩) (by simp) (by simp) p3 p4];simp only;omega)
    have HH:=Lib.hid hw
    have HRz:Arr (((w4.setCell ⟨w2.heap.size,0,none⟩ (.int .i64 2)).setCell ⟨w.heap.size,0,none⟩ (.int .i64 2)).setCell ⟨w.heap.size,1,none⟩ (.int .i64 g.h)) w.heap.size 25 #[.int .i64 2,.int .i64 g.h]:=((HR4.other w2.heap.size 0 _ (by omega)).set 0 _).set 1 _
    have HGz:w.grownBy (((w4.setCell ⟨w2.heap.size,0,none⟩ (.int .i64 2)).setCell ⟨w.heap.size,0,none⟩ (.int .i64 2)).setCell ⟨w.heap.size,1,none⟩ (.int .i64 g.h)) (some b):=gt_own _ _ (gt_own _ _ (gt_own _ _ HG4 (by omega)) (Nat.le_refl _)) (Nat.le_refl _)
    have HCz:Cur (((w4.setCell ⟨w2.heap.size,0,none⟩ (.int .i64 2)).setCell ⟨w.heap.size,0,none⟩ (.int .i64 2)).setCell ⟨w.heap.size,1,none⟩ (.int .i64 g.h)) b B0:=Cur.far _ _ (Cur.far _ _ (Cur.far _ _ HC4 (by omega)) hb) hb
    have HRz:=Lib.hid HRz;have HGz:=Lib.hid HGz;have HCz:=Lib.hid HCz
    clear hw hcn
    go_wp2
    exact bodyPost_ret (results_cell_row Tryz.results37 _ _ w.heap.size 25 _ (0,0) _ rfl HRz.out Tryz.underlying25 rfl (by kernel_rfl)) rfl ⟨⟨2,g.h⟩,rfl,by simp,by simp,p3,p4,HN.out,HCz.out,HGz.out⟩
  · have HN:Hid (2≤nodeCount g):=Lib.hid (by omega)
    have HRz:Arr ((w4.setCell ⟨w.heap.size,0,none⟩ (.int .i64 g.w)).setCell ⟨w.heap.size,1,none⟩ (.int .i64 g.h)) w.heap.size 25 #[.int .i64 g.w,.int .i64 g.h]:=(HR4.set 0 _).set 1 _
    have HGz:w.grownBy ((w4.setCell ⟨w.heap.size,0,none⟩ (.int .i64 g.w)).setCell ⟨w.heap.size,1,none⟩ (.int .i64 g.h)) (some b):=gt_own _ _ (gt_own _ _ HG4 (Nat.le_refl _)) (Nat.le_refl _)
    have HCz:Cur ((w4.setCell ⟨w.heap.size,0,none⟩ (.int .i64 g.w)).setCell ⟨w.heap.size,1,none⟩ (.int .i64 g.h)) b B0:=Cur.far _ _ (Cur.far _ _ HC4 hb) hb
    have HRz:=Lib.hid HRz;have HGz:=Lib.hid HGz;have HCz:=Lib.hid HCz
    clear hcn
    go_wp2
    exact bodyPost_ret (results_cell_row Tryz.results37 _ _ w.heap.size 25 _ (0,0) _ rfl HRz.out Tryz.underlying25 rfl (by kernel_rfl)) rfl ⟨g,rfl,p1,p2,p3,p4,HN.out,HCz.out,HGz.out⟩
theorem wrap_mod {n z:Int} (n1:0<n) (z0:0≤z) (z1:z<2*n):z % n=if z<n then z else z - n:=by
  by_cases h:z<n
  · rw[if_pos h];exact Int.emod_eq_of_lt z0 h
  · rw[if_neg h]
    have e:z=(z - n)+n:=by omega
    rw[e,Int.add_emod_right,Int.emod_eq_of_lt (by omega) (by omega)]
    omega
set_option maxHeartbeats 4000000 in
theorem spec_l14Packet (b B0:Nat) (g:Grid) (id:Int) (w:World) (HC:Cur w b B0) (g1:1≤g.w) (g2:g.w≤4) (g3:1≤g.h) (g4:g.h≤4) (gn:2≤nodeCount g) (i1:1≤id) (i9:id≤9999) :
    Calls Tryz.prog 96 #[.pointer (some ⟨b,0,none⟩),.agg #[.int .i64 g.w,.int .i64 g.h],.int .i64 id] w fun e w'=>∃ p:Packet,e=.returned (.agg #[.int .i64 p.id,.int .i64 p.src,.int .i64 p.dst,.int .i64 p.cls,.int .i64 p.len])∧packetOk g p=true∧p.id=id∧Cur w' b B0∧w.grownBy w' (some b):=by
  have hb:=HC.lt
  have hc16:=count_le g
  obtain⟨n,hn⟩:∃ n,nodeCount g=n:=⟨_,rfl⟩
  have HN:=Lib.hid hn
  rw[hn] at gn hc16
  clear hn
  obtain⟨wa,ewa⟩:∃ z,z=(w.alloc (.cells #[.int .i64 g.w,.int .i64 g.h] 25)).alloc (.cells #[.int .i64 0,.int .i64 0,.int .i64 0,.int .i64 0,.int .i64 0] 38):=⟨_,rfl⟩
  have hwa:Below w.heap.size w wa:=by rw[ewa];exact bw_alloc _ (bw_alloc _ (bw_refl w))
  have HR1:Arr wa (w.heap.size+1) 38 #[.int .i64 0,.int .i64 0,.int .i64 0,.int .i64 0,.int .i64 0]:=by rw[ewa];exact Arr.new _ _ _ _ (by simp only[szs])
  have zwa:wa.heap.size=w.heap.size+2:=by rw[ewa];simp only[szs]
  go_enter Tryz.func96,Tryz.ntmps96
  go_wp2_with fail
  rw[←ewa]
  clear ewa
  refine(spec_NodeCount g _).mono ?_
  rintro e w2 ⟨rfl,Bb⟩
  rw[HN.out]
  have HC2:=(HC.below hwa).below Bb
  have HR2:=HR1.below Bb
  have HG2:w.grownBy w2 (some b):=grown_below _ (bw_then hwa Bb)
  clear Bb hwa HR1 HC
  go_wp2_with fail
  refine(spec_l01Below b B0 n _ HC2 (by omega) (by omega)).mono ?_
  rintro e w3 ⟨x,rfl,x0,x1,HC3,hg3⟩
  have HR3:=arr_gt HR2 hg3 (by omega)
  have HG3:=grown_trans HG2 hg3
  clear hg3 HR2 HG2 HC2
  go_wp2_with fail
  refine(spec_l01Below b B0 (n - 1) _ HC3 (by omega) (by omega)).mono ?_
  rintro e w4 ⟨y,rfl,y0,y1,HC4,hg4⟩
  have HR4:=arr_gt HR3 hg4 (by omega)
  have HG4:=grown_trans HG3 hg4
  clear hg4 HR3 HG3 HC3
  have hm:=wrap_mod (n:=n) (z:=x+1+y) (by omega) (by omega) (by omega)
  obtain⟨t,ht⟩:∃ t,(x+1+y) % n=t:=⟨_,rfl⟩
  have htm:(x+1+y).tmod n=t:=by rw[Int.tmod_eq_emod_of_nonneg (by omega),ht]
  have ht2:0≤t∧t<n∧t≠x:=by
    rw[←ht,hm]
    split <;> omega
  have nne:¬ n=0:=by omega
  clear hm
  go_wp2_with fail
  refine(spec_l01Below b B0 2 _ HC4 (by omega) (by omega)).mono ?_
  rintro e w5 ⟨cl,rfl,c0,c1,HC5,hg5⟩
  have HR5:=arr_gt HR4 hg5 (by omega)
  have HG5:=grown_trans HG4 hg5
  clear hg5 HR4 HG4 HC4
  go_wp2_with fail
  refine(spec_l01Below b B0 5 _ HC5 (by omega) (by omega)).mono ?_
  rintro e w6 ⟨ln,rfl,l0,l1,HC6,hg6⟩
  have HR6:=arr_gt HR5 hg6 (by omega)
  have HG6:=grown_trans HG5 hg6
  clear hg6 HR5 HG5 HC5
  have HP:Hid (packetOk g ⟨id,x,t,cl,1+ln⟩=true):=Lib.hid (by
    simp only[packetOk,isNode,inside,HN.out,Bool.and_eq_true,decide_eq_true_eq]
    omega)
  have r0:w6.cell? ⟨w.heap.size+1,0,none⟩=some (.int .i64 0):=HR6.cell 0
  have r1:w6.cell? ⟨w.heap.size+1,1,none⟩=some (.int .i64 0):=HR6.cell 1
  have r2:w6.cell? ⟨w.heap.size+1,2,none⟩=some (.int .i64 0):=HR6.cell 2
  have r3:w6.cell? ⟨w.heap.size+1,3,none⟩=some (.int .i64 0):=HR6.cell 3
  have r4:w6.cell? ⟨w.heap.size+1,4,none⟩=some (.int .i64 0):=HR6.cell 4
  have e0:=HR6.frozen 0
  have e1:=HR6.frozen 1
  have e2:=HR6.frozen 2
  have e3:=HR6.frozen 3
  have e4:=HR6.frozen 4
  have rl:=HR6.lt
  have HR6:=Lib.hid HR6;have HG6:=Lib.hid HG6;have HC6:=Lib.hid HC6
  go_wp2
  refine bodyPost_ret (results_cell_row Tryz.results96 _ _ (w.heap.size+1) 38 _ (0,0) _ rfl (((((HR6.out.set 0 _).set 1 _).set 2 _).set 3 _).set 4 _) Tryz.underlying38 rfl (by kernel_rfl)) rfl ⟨⟨id,x,t,cl,1+ln⟩,rfl,HP.out,rfl,?_,?_⟩
  · exact Cur.far _ _ (Cur.far _ _ (Cur.far _ _ (Cur.far _ _ (Cur.far _ _ HC6.out (by omega)) (by omega)) (by omega)) (by omega)) (by omega)
  · exact gt_own _ _ (gt_own _ _ (gt_own _ _ (gt_own _ _ (gt_own _ _ HG6.out (by omega)) (by omega)) (by omega)) (by omega)) (by omega)
def Drawn (g:Grid) (l:List Packet):Prop:=l.length≤6∧∀ j:Nat,j<l.length→packetOk g (rp l j)=true∧(rp l j).id=(j:Int)+1
theorem rp_snoc_lt (xs:List Packet) (x:Packet) (j:Nat) (h:j<xs.length):rp (xs++[x]) (j:Int)=rp xs (j:Int):=by
  simp[rp,List.getD_eq_getElem?_getD,List.getElem?_append,h]
theorem rp_snoc_at (xs:List Packet) (x:Packet):rp (xs++[x]) (xs.length:Int)=x:=by
  simp[rp,List.getD_eq_getElem?_getD]
section
variable {ops:Array Oper} {rest:List Oper} {o:Oper} {a:Act} {Q:Exit→Act→World→Prop}
theorem app_PN {B:Nat} {W:World} (hgd:o.guard=none) (s x:Operand)
    (ho:o.op=.call { callee:=.builtin .append,args:=#[s,x],argTypes:=#[33,33] })
    (v:Value) (xs:List Packet) (p:Packet) (hs:a.eval s=v) (hx:a.eval x=.slice (some ⟨W.heap.size,0,none⟩) 1 1)
    (HO:kP.R 38 W B (fun _=>True) v xs) (hB:B≤W.heap.size) (hl:xs.length≤1000000)
    (h:∀ v1 w1,kP.R 38 w1 B (fun _=>True) v1 (xs++[p])→W.grownBy w1 v.ownBlock→(v1.ownBlock=v.ownBlock∨∃ b,v1.ownBlock=some b∧W.heap.size≤b)→wpList Tryz.prog ops Q rest (a.put o.dst v1) w1) :
    wpList Tryz.prog ops Q (o::rest) a (W.alloc (.cells #[.int .i64 p.id,.int .i64 p.src,.int .i64 p.dst,.int .i64 p.cls,.int .i64 p.len] 38)):=
  Kd.R_append (P:=Tryz.prog) kP (w0:=W) B hgd s x 33 38 (.agg #[.int .i64 0,.int .i64 0,.int .i64 0,.int .i64 0,.int .i64 0]) 40 ho Tryz.underlying33 info_P rfl (by decide) (by omega) v xs p (pkCells p) (fun _=>True) (fun _=>False) hs hx rfl (fun _ h=>h.elim) (fun _ _=>trivial) HO (Below.refl _ _) hB (by omega) (fun v1 w1 h1 _ h3 h4=>h v1 w1 h1 h3 h4)
end
set_option maxHeartbeats 4000000 in
theorem spec_l16Packets (b B0:Nat) (g:Grid) (w:World) (HC:Cur w b B0) (g1:1≤g.w) (g2:g.w≤4) (g3:1≤g.h) (g4:g.h≤4) (gn:2≤nodeCount g) :
    Calls Tryz.prog 40 #[.pointer (some ⟨b,0,none⟩),.agg #[.int .i64 g.w,.int .i64 g.h]] w fun e w'=>∃ (l:List Packet) (v:Value),e=.returned v∧Drawn g l∧kP.R 38 w' w.heap.size (fun _=>True) v l∧Cur w' b B0∧w.grownBy w' (some b):=by
  have hb:=HC.lt
  have HG0:=Arr.new w w.heap.size 25 #[.int .i64 g.w,.int .i64 g.h] rfl
  obtain⟨wa,ewa⟩:∃ z,z=(w.alloc (.cells #[.int .i64 g.w,.int .i64 g.h] 25)).alloc (.cells #[] 38):=⟨_,rfl⟩
  have hwa:Below w.heap.size w wa:=by rw[ewa];exact bw_alloc _ (bw_alloc _ (bw_refl w))
  have HGa:Arr wa w.heap.size 25 #[.int .i64 g.w,.int .i64 g.h]:=by rw[ewa];exact HG0.below (bw_alloc _ (bw_refl _))
  have HOa:kP.R 38 wa (w.heap.size+1) (fun _=>True) (.slice (some ⟨w.heap.size+1,0,none⟩) 0 0) []:=by
    have h:=R_empty' (W0:=w.alloc (.cells #[.int .i64 g.w,.int .i64 g.h] 25)) (W:=w.alloc (.cells #[.int .i64 g.w,.int .i64 g.h] 25)) kP 38 (Nat.le_refl _) (w.heap.size+1) (by simp only[szs])
    simp only[szs] at h
    rw[ewa]
    exact h
  have zwa:wa.heap.size=w.heap.size+2:=by rw[ewa];simp only[szs]
  go_enter Tryz.func40,Tryz.ntmps40
  go_wp2
  rw[←ewa]
  clear ewa HG0
  go_loopw [5,6] (fun v i wr=>∃ (k:Nat) (l:List Packet),i=.int .i64 k∧Hid (l.length=k)∧k≤6∧Hid (∀ j:Nat,j<l.length→packetOk g (rp l j)=true∧(rp l j).id=(j:Int)+1)∧Hid (kP.R 38 wr (w.heap.size+1) (fun _=>True) v l)∧Hid (Cur wr b B0)∧Hid (w.grownBy wr (some b))∧Hid (Arr wr w.heap.size 25 #[.int .i64 g.w,.int .i64 g.h])∧w.heap.size+1≤wr.heap.size) (fun _ i _=>6 - (intOf i).toNat)
  case atStart=>exact⟨0,[],rfl,Lib.hid rfl,Nat.zero_le _,Lib.hid (fun j h=>absurd h (Nat.not_lt_zero _)),Lib.hid HOa,Lib.hid (HC.below hwa),Lib.hid (grown_below _ hwa),Lib.hid HGa,by omega⟩
  case round=>
    clear HOa HGa hwa HC
    obtain⟨k,l,rfl,HL,hk,HP,HO,HC,HG,HB,zr⟩:=hrel
    obtain⟨A,c,rfl⟩:=Kd.R_slice HO.out
    go_wp2_with fail
    refine(spec_l01Below b B0 7 _ HC.out (by omega) (by omega)).mono ?_
    rintro e w2 ⟨x,rfl,x0,x1,HC2,hg2⟩
    have HAP:(Value.slice A l.length c).ownBlock=none∨(Value.slice A l.length c).ownBlock≠some b:=.inr (fun e=>by have:=Kd.R_base HO.out b e;omega)
    have HO2:=Lib.hid (R_grownF HO.out hg2 HAP)
    have HB2:=Lib.hid (arr_gt HB.out hg2 (by omega))
    have HG2:=Lib.hid (grown_trans HG.out hg2)
    have z2:=hg2.size
    have HC2:=Lib.hid HC2
    clear hg2
    by_cases hlt:(k:Int)<x
    · have t0:w2.cell? ⟨w.heap.size,0,none⟩=some (.int .i64 g.w):=HB2.out.cell 0
      have t1:w2.cell? ⟨w.heap.size,1,none⟩=some (.int .i64 g.h):=HB2.out.cell 1
      have tl:=HB2.out.lt
      go_wp2_with fail
      refine(spec_l14Packet b B0 g ((k:Int)+1) _ HC2.out g1 g2 g3 g4 gn (by omega) (by omega)).mono ?_
      rintro e w3 ⟨p,rfl,hp,hid,HC3,hg3⟩
      have HAP2:(Value.slice A l.length c).ownBlock=none∨(Value.slice A l.length c).ownBlock≠some b:=.inr (fun e=>by have:=Kd.R_base HO2.out b e;omega)
      have HO3:=R_grownF HO2.out hg3 HAP2
      have HB3:=arr_gt HB2.out hg3 (by omega)
      have HG3:=grown_trans HG2.out hg3
      have z3:=hg3.size
      have HPP:=Lib.hid hp;have HPI:=Lib.hid hid
      clear hg3 hp hid t0 t1 tl
      have hl6:l.length≤1000000:=by have:=HL.out;omega
      go_wp2_with (at_builtin;refine app_PN (B:=w.heap.size+1) rfl (.tmp 14) (.tmp 20) rfl _ l p rfl rfl HO3 (by omega) hl6 ?_;intro v4 w4 HO4 hg4 hat4)
      have hk2:k+1≤6:=by omega
      have zz:w3.heap.size≤w4.heap.size:=hg4.size
      have ha:∀ q,(Value.slice A l.length c).ownBlock=some q→w.heap.size+1≤q:=fun q hq=>Kd.R_base HO3 q hq
      have HC4:Cur w4 b B0:=HC3.grown hg4 (fun q hq=>⟨by have:=ha q hq;have:=HC3.1;omega,by have:=ha q hq;omega⟩)
      have HG4:w.grownBy w4 (some b):=⟨hg4.os.trans HG3.os,hg4.tape.trans HG3.tape,hg4.output.trans HG3.output,Nat.le_trans HG3.size hg4.size,fun i hi hne=>(hg4.block i (Nat.lt_of_lt_of_le hi HG3.size) (fun e=>by have:=ha i e.symm;omega)).trans (HG3.block i hi hne)⟩
      have HB4:Arr w4 w.heap.size 25 #[.int .i64 g.w,.int .i64 g.h]:=(hg4.block _ HB3.lt (fun e=>by have:=ha _ e.symm;omega)).trans HB3
      have HL4:Hid ((l++[p]).length=k+1):=Lib.hid (by rw[List.length_append,HL.out];rfl)
      have HP4:Hid (∀ j:Nat,j<(l++[p]).length→packetOk g (rp (l++[p]) j)=true∧(rp (l++[p]) j).id=(j:Int)+1):=Lib.hid (fun j hj=>by
        by_cases e:j<l.length
        · rw[rp_snoc_lt _ _ _ e];exact HP.out j e
        · have e2:j=l.length:=by rw[List.length_append] at hj;simp at hj;omega
          subst e2
          rw[rp_snoc_at]
          exact⟨HPP.out,by rw[HPI.out,HL.out]⟩)
      have HO4:=Lib.hid HO4;have HC4:=Lib.hid HC4;have HG4:=Lib.hid HG4;have HB4:=Lib.hid HB4
      go_roundw
      case rel=>exact⟨k+1,l++[p],by go_num,HL4,hk2,HP4,HO4,HC4,HG4,HB4,by omega⟩
      case measure=>simp[intOf];omega
    · go_wp2
      go_ret
      exact⟨l,_,rfl,⟨by rw[HL.out];exact hk,HP.out⟩,Kd.R_lower HO2.out (by omega),HC2.out,HG2.out⟩
structure TX where
  A:Option Addr
  c:Nat
  lo:Nat
  hi:Nat
def gT (B:Nat) (y:TX) (xs:List Int) (W:World):Prop:=B≤y.lo∧y.lo≤y.hi∧y.hi≤W.heap.size∧RU (Kd.int .i64) 3 W y.lo y.hi (.slice y.A xs.length y.c) xs
theorem gT.below {B:Nat} {y:TX} {xs:List Int} {W W1:World} (h:gT B y xs W) (hb:Below W.heap.size W W1):gT B y xs W1:=⟨h.1,h.2.1,Nat.le_trans h.2.2.1 hb.size,h.2.2.2.below hb⟩
theorem gT.grown {B b:Nat} {y:TX} {xs:List Int} {W W1:World} (h:gT B y xs W) (hg:W.grownBy W1 (some b)) (hb:b<B):gT B y xs W1:=
  ⟨h.1,h.2.1,Nat.le_trans h.2.2.1 hg.size,h.2.2.2.step (fun k h1 _ h3=>hg.block k h3 (fun e=>by
    have:=h.1
    have:=Option.some.inj e
    omega))⟩
theorem gT.of {B:Nat} {xs:List Int} {W W1:World} {e:Ending} (h:GotTab W W1 xs e) (hb:Below W.heap.size W W1) (hB:B≤W.heap.size):∃ y:TX,e=.returned (.agg #[.slice y.A xs.length y.c])∧gT B y xs W1∧W.heap.size≤y.lo∧y.hi≤W1.heap.size:=by
  obtain⟨v,rfl,hr⟩:=h
  obtain⟨A,c,rfl⟩:=Kd.R_slice hr
  exact⟨⟨A,c,W.heap.size,W1.heap.size⟩,rfl,⟨hB,hb.size,Nat.le_refl _,RU.of hr (Nat.le_refl _) (Nat.le_refl _)⟩,Nat.le_refl _,Nat.le_refl _⟩
theorem results_cells2 {P:Program} {fn:Func} {p p2 u:Tmp} {ty ty2:TypeId} (h:fn.results=#[.cell p ty,.cell p2 ty2,.tmp u]) (tmps:Array Value) (w:World) (g g2:Nat) (t t2:TypeId) (cs cs2:Array Value) (fr fr2:Nat × Nat) (d d2:TypeDesc)
    (hp:tmps.getD p undef=.pointer (some ⟨g,0,none⟩)) (hp2:tmps.getD p2 undef=.pointer (some ⟨g2,0,none⟩)) (hg:w.heap[g]?=some (.cells cs t fr)) (hg2:w.heap[g2]?=some (.cells cs2 t2 fr2))
    (hu:P.underlying ty=some d) (hu2:P.underlying ty2=some d2) (hd:(match d with|.struct _|.array _ _=>true|_=>false)=true) (hd2:(match d2 with|.struct _|.array _ _=>true|_=>false)=true) (hi:(P.info? ty).map (·.size)=some cs.size) (hi2:(P.info? ty2).map (·.size)=some cs2.size) :
    (results fn tmps).run P w=.ok (.tuple #[.agg cs,.agg cs2,tmps.getD u undef]) w:=by
  have hp':tmps[p]?.getD undef=.pointer (some ⟨g,0,none⟩):=by simpa using hp
  have hp2':tmps[p2]?.getD undef=.pointer (some ⟨g2,0,none⟩):=by simpa using hp2
  unfold results
  rw[h]
  simp[hp',hp2',asAddr,Result.andThen,run_loadVar_row w g t ty cs fr d hg hu hd hi,run_loadVar_row w g2 t2 ty2 cs2 fr2 d2 hg2 hu2 hd2 hi2]
set_option maxHeartbeats 8000000 in
set_option maxRecDepth 100000 in
theorem spec_DrawSafeTraffic (A:Option Addr) (N c:Nat) (w:World) (HX:Byt w A N):Calls Tryz.prog 8 #[.slice A N c] w fun e w'=>(∃ (g:Grid) (r s:Int) (l:List Packet) (A2 A3 D:Option Addr) (c2 c3 d:Nat),e=.returned (.tuple #[.agg #[.int .i64 g.w,.int .i64 g.h,.slice none 0 0],.agg #[.slice A2 (makeT g r).length c2,.slice A3 (makeT g s).length c3],.slice D l.length d])∧(1≤g.w∧g.w≤4∧1≤g.h∧g.h≤4∧2≤nodeCount g)∧(1≤r∧r≤3∧1≤s∧s≤3)∧Drawn g l∧Kd.C (Kd.int .i64) w' A2 (makeT g r).length (makeT g r)∧Kd.C (Kd.int .i64) w' A3 (makeT g s).length (makeT g s)∧kP.C w' D l.length l)∧Below w.heap.size w w':=by
 obtain⟨wa,ewa⟩:∃ z,z=(w.alloc (.cells #[.int .i64 0,.int .i64 0,.slice none 0 0] 28)).alloc (.cells #[.slice none 0 0,.slice none 0 0] 32):=⟨_,rfl⟩
 have hwa:Below w.heap.size w wa:=by rw[ewa];exact bw_alloc _ (bw_alloc _ (bw_refl w))
 have zwa:wa.heap.size=w.heap.size+2:=by rw[ewa];simp only[szs]
 have HMa:Arr wa w.heap.size 28 #[.int .i64 0,.int .i64 0,.slice none 0 0]:=by rw[ewa];exact(Arr.new w _ _ _ rfl).below (bw_alloc _ (bw_refl _))
 have HCa:Arr wa (w.heap.size+1) 32 #[.slice none 0 0,.slice none 0 0]:=by rw[ewa];exact Arr.new _ _ _ _ (by simp only[szs])
 have hxa:=HX.below hwa
 go_enter Tryz.func8,Tryz.ntmps8
 go_wp2_with fail
 rw[←ewa]
 clear ewa
 refine(spec_l01New A N c _ hxa).mono ?_
 rintro e w1 ⟨b,rfl,hb,HC1,Ba⟩
 have hbl:=HC1.lt
 have HM1:=HMa.below Ba
 have HK1:=HCa.below Ba
 have HB1:=bw_then hwa Ba
 have z1:=bw_size Ba
 clear hxa Ba HMa HCa hwa
 go_wp2_with fail
 refine(spec_l14Grid b _ _ HC1).mono ?_
 rintro e w2 ⟨g,rfl,g1,g2,g3,g4,gn,HC2,hg2⟩
 have HM2:=arr_gt HM1 hg2 (by omega)
 have HK2:=arr_gt HK1 hg2 (by omega)
 have HB2:Below w.heap.size w w2:=bw_cur HB1 hg2 (by omega)
 have z2:=hg2.size
 clear hg2 HM1 HK1 HB1 HC1
 obtain⟨w3,e3⟩:∃ z,z=w2.alloc (.cells #[.int .i64 g.w,.int .i64 g.h] 25):=⟨_,rfl⟩
 have hw3:Below w2.heap.size w2 w3:=by rw[e3];exact bw_alloc _ (bw_refl w2)
 have HT3:Hid (Arr w3 w2.heap.size 25 #[.int .i64 g.w,.int .i64 g.h]):=Lib.hid (by rw[e3];exact Arr.new w2 _ _ _ rfl)
 have HM3:=Lib.hid (HM2.below hw3)
 have HK3:=Lib.hid (HK2.below hw3)
 have HB3:=Lib.hid (bw_then HB2 hw3)
 have HC3:=Lib.hid (HC2.below hw3)
 have z3:w3.heap.size=w2.heap.size+1:=by rw[e3];simp only[szs]
 clear hw3 HM2 HK2 HB2 HC2
 go_wp2_with fail
 rw[←e3]
 clear e3
 refine wp_region_tz w3.heap.size (fun i=>if i=11 then .cells #[.slice none 0 0,.slice none 0 0] 32 else .cells #[] 0) (fun i g=>if i=11 then .pointer (some ⟨g,0,none⟩) else undef) (fun W=>w3.grownBy W (some b)) 12 [(0,.quiet),(1,.quiet),(2,.chain),(3,.quiet),(4,.chain),(5,.quiet),(6,.quiet),(7,.chain),(8,.quiet),(9,.chain),(10,.quiet),(11,.lit)] (by kernel_rfl) (by kernel_rfl) (by kernel_rfl) (by kernel_rfl) (by kernel_rfl) (by kernel_rfl) (by kernel_rfl) (by kernel_rfl) (gt_drew (World.grownBy.refl _ _)) ⟨fun W o h=>gt_alloc _ h,fun W h=>h.size⟩ (fun W=>Cur W b wa.heap.size) (HC3.out.below (bw_drew (bw_refl _))) (fun _ W W' h hb=>h.below hb) ?_
 refine wpTz_v (some 12) (.agg #[.int .i64 g.w,.int .i64 g.h]) rfl rfl (by rfl) (fun W hC=>?_) ?_
 ·have hg:=arr_gt HT3.out hC (by omega)
  have h0:W.cell? ⟨w2.heap.size,0,none⟩=some (.int .i64 g.w):=hg.cell 0
  have h1:W.cell? ⟨w2.heap.size,1,none⟩=some (.int .i64 g.h):=hg.cell 1
  have hl:=hg.lt
  clear hg
  clear hC
  go_simp
  try rfl
 try simp only[Act.put,nms]
 refine wpTz_v (some 13) (.pointer (some ⟨b,0,none⟩)) rfl rfl (by rfl) (fun W hC=>?_) ?_
 ·clear hC
  go_simp
  try rfl
 try simp only[Act.put,nms]
 refine wpTz_e (some 14) rfl rfl (by rfl) ((0,0):Fin 3 × Nat) (fun y=>.int .i64 ((y.1.val:Nat):Int)) (fun y W=>Cur W b wa.heap.size) (fun y=>(y.2,y.2)) (fun W hF hC=>?_) (fun y W W' h hb=>h.below hb) (fun xy=>?_)
 ·refine LoOp.enter (by go_simp;first|done|exact⟨rfl,rfl⟩|rfl) ?_
  refine(spec_l01Below b _ 3 W hF (by omega) (by omega)).mono ?_
  rintro e W1 ⟨x',rfl,x0,x1,HC1,hg1⟩
  obtain⟨k',rfl⟩:∃ k':Nat,x'=k':=⟨x'.toNat,by omega⟩
  exact⟨_,rfl,(⟨k',by omega⟩,W.heap.size),rfl,grown_trans hC hg1,HC1,⟨hg1.size,fun i hi hlt=>hg1.block i hlt (fun e=>by have:=Option.some.inj e;omega)⟩,Nat.le_refl _,hg1.size⟩
 obtain⟨⟨x,hx⟩,nx⟩:=xy
 dsimp only
 try simp only[Act.put,nms]
 refine wpTz_v (some 15) (.int .i64 (1+(x:Int))) rfl rfl (by rfl) (fun W hC=>?_) ?_
 ·have hwx:IntKind.i64.wrap (1+(x:Int))=1+(x:Int):=IntWalk.i64_in _ (by omega)
  clear hC
  go_simp
  try rfl
 try simp only[Act.put,nms]
 refine wpTz_d (some 16) rfl rfl (by rfl) (⟨none,0,0,0⟩:TX) (fun y=>.agg #[.slice y.A (makeT g (1+(x:Int))).length y.c]) (fun y W=>gT w3.heap.size y (makeT g (1+(x:Int))) W∧Cur W b wa.heap.size) (fun y=>(y.lo,y.hi)) (fun W hF hC=>?_) (fun y W W' h hb=>⟨h.1.below hb,h.2.below hb⟩) (fun yy=>?_)
 ·refine LoOp.enter (by go_simp;first|done|exact⟨rfl,rfl⟩|rfl) ?_
  refine(spec_l05Make g (1+(x:Int)) W g1 g2 g3 g4 (by omega) (by omega)).mono ?_
  rintro e W1 ⟨hg1,Ba⟩
  obtain⟨y,rfl,hy,h1,h2⟩:=gT.of hg1 Ba hC.size
  exact⟨_,rfl,y,rfl,grown_trans hC (grown_below _ Ba),⟨hy,hF.below Ba⟩,Ba,h1,h2⟩
 obtain⟨AP,cP,lP,hP⟩:=yy
 dsimp only
 try simp only[Act.put,nms]
 refine wpTz_v (some 17) (.agg #[.int .i64 g.w,.int .i64 g.h]) rfl rfl (by rfl) (fun W hC=>?_) ?_
 ·have hg:=arr_gt HT3.out hC (by omega)
  have h0:W.cell? ⟨w2.heap.size,0,none⟩=some (.int .i64 g.w):=hg.cell 0
  have h1:W.cell? ⟨w2.heap.size,1,none⟩=some (.int .i64 g.h):=hg.cell 1
  have hl:=hg.lt
  clear hg
  clear hC
  go_simp
  try rfl
 try simp only[Act.put,nms]
 refine wpTz_v (some 18) (.pointer (some ⟨b,0,none⟩)) rfl rfl (by rfl) (fun W hC=>?_) ?_
 ·clear hC
  go_simp
  try rfl
 try simp only[Act.put,nms]
 refine wpTz_e (some 19) rfl rfl (by rfl) ((0,0):Fin 3 × Nat) (fun y=>.int .i64 ((y.1.val:Nat):Int)) (fun y W=>gT w3.heap.size ⟨AP,cP,lP,hP⟩ (makeT g (1+(x:Int))) W∧Cur W b wa.heap.size) (fun y=>(y.2,y.2)) (fun W hF hC=>?_) (fun y W W' h hb=>⟨h.1.below hb,h.2.below hb⟩) (fun xy=>?_)
 ·refine LoOp.enter (by go_simp;first|done|exact⟨rfl,rfl⟩|rfl) ?_
  refine(spec_l01Below b _ 3 W hF.2 (by omega) (by omega)).mono ?_
  rintro e W1 ⟨x',rfl,x0,x1,HC1,hg1⟩
  obtain⟨k',rfl⟩:∃ k':Nat,x'=k':=⟨x'.toNat,by omega⟩
  exact⟨_,rfl,(⟨k',by omega⟩,W.heap.size),rfl,grown_trans hC hg1,⟨hF.1.grown hg1 (by omega),HC1⟩,⟨hg1.size,fun i hi hlt=>hg1.block i hlt (fun e=>by have:=Option.some.inj e;omega)⟩,Nat.le_refl _,hg1.size⟩
 obtain⟨⟨u,hu⟩,nu⟩:=xy
 dsimp only
 try simp only[Act.put,nms]
 refine wpTz_v (some 20) (.int .i64 (1+(u:Int))) rfl rfl (by rfl) (fun W hC=>?_) ?_
 ·have hwx:IntKind.i64.wrap (1+(u:Int))=1+(u:Int):=IntWalk.i64_in _ (by omega)
  clear hC
  go_simp
  try rfl
 try simp only[Act.put,nms]
 refine wpTz_d (some 21) rfl rfl (by rfl) (⟨none,0,0,0⟩:TX) (fun y=>.agg #[.slice y.A (makeT g (1+(u:Int))).length y.c]) (fun y W=>gT w3.heap.size y (makeT g (1+(u:Int))) W∧gT w3.heap.size ⟨AP,cP,lP,hP⟩ (makeT g (1+(x:Int))) W∧Cur W b wa.heap.size) (fun y=>(y.lo,y.hi)) (fun W hF hC=>?_) (fun y W W' h hb=>⟨h.1.below hb,h.2.1.below hb,h.2.2.below hb⟩) (fun yy=>?_)
 ·refine LoOp.enter (by go_simp;first|done|exact⟨rfl,rfl⟩|rfl) ?_
  refine(spec_l05Make g (1+(u:Int)) W g1 g2 g3 g4 (by omega) (by omega)).mono ?_
  rintro e W1 ⟨hg1,Ba⟩
  obtain⟨y,rfl,hy,h1,h2⟩:=gT.of hg1 Ba hC.size
  exact⟨_,rfl,y,rfl,grown_trans hC (grown_below _ Ba),⟨hy,hF.1.below Ba,hF.2.below Ba⟩,Ba,h1,h2⟩
 obtain⟨AQ,cQ,lQ,hQ⟩:=yy
 dsimp only
 try simp only[Act.put,nms]
 refine wpTz_v (some 22) (.agg #[.slice AP (makeT g (1+(x:Int))).length cP,.slice AQ (makeT g (1+(u:Int))).length cQ]) rfl rfl (by rfl) (fun W hC=>?_) ?_
 ·clear hC
  go_simp
  try rfl
 try simp only[Act.put,nms]
 refine wpTz_l (some 7) rfl rfl (by rfl) (fun W=>?_) (fun gb=>?_)
 ·go_simp
  try rfl
 try simp only[Act.put,nms]
 refine wpTz_z (fun w8 hF hC=>?_)
 obtain⟨⟨hT2,hT1,HC8⟩,bg,hgb,ig⟩:=hF
 simp only[List.forall_mem_cons,List.not_mem_nil,false_implies,implies_true,and_true] at ig
 have ha8:Arr w8 gb 32 #[.slice none 0 0,.slice none 0 0]:=hgb
 have r0:w8.cell? ⟨gb,0,none⟩=some (.slice none 0 0):=ha8.cell 0
 have r1:w8.cell? ⟨gb,1,none⟩=some (.slice none 0 0):=ha8.cell 1
 have f0:=ha8.frozen 0
 have f1:=ha8.frozen 1
 have rl:=ha8.lt
 have HB8:=bw_cur HB3.out hC (by omega)
 have HM8:=arr_gt HM3.out hC (by omega)
 have HK8:=arr_gt HK3.out hC (by omega)
 have HT8:=arr_gt HT3.out hC (by omega)
 have z8:=hC.size
 obtain⟨w9,e9⟩:∃ z,z=(w8.setCell ⟨gb,0,none⟩ (.slice AP (makeT g (1+(x:Int))).length cP)).setCell ⟨gb,1,none⟩ (.slice AQ (makeT g (1+(u:Int))).length cQ):=⟨_,rfl⟩
 have HG9:Hid (Arr w9 gb 32 #[.slice AP (makeT g (1+(x:Int))).length cP,.slice AQ (makeT g (1+(u:Int))).length cQ]):=Lib.hid (by rw[e9];exact(ha8.set 0 _).set 1 _)
 have HM9:=Lib.hid (show Arr w9 w.heap.size 28 _ from by rw[e9];exact(HM8.other gb 0 _ (by omega)).other gb 1 _ (by omega))
 have HK9:=Lib.hid (show Arr w9 (w.heap.size+1) 32 _ from by rw[e9];exact(HK8.other gb 0 _ (by omega)).other gb 1 _ (by omega))
 have HT9:=Lib.hid (show Arr w9 w2.heap.size 25 _ from by rw[e9];exact(HT8.other gb 0 _ (by omega)).other gb 1 _ (by omega))
 have HB9:Hid (Below w.heap.size w w9):=Lib.hid (by rw[e9];exact low_set (low_set HB8 (by omega) 0 _) (by omega) 1 _)
 have HC9:Hid (Cur w9 b wa.heap.size):=Lib.hid (by rw[e9];exact Cur.far _ _ (Cur.far _ _ HC8 (by omega)) (by omega))
 have z9:w9.heap.size=w8.heap.size:=by rw[e9];simp only[szs]
 have hP1:=hT1.2.2.2
 have hQ1:=hT2.2.2.2
 have lP1:=hT1.1
 have lQ1:=hT2.1
 have lP3:=hT1.2.2.1
 have lQ3:=hT2.2.2.1
 dsimp only at hP1 hQ1 lP1 lQ1 lP3 lQ3
 have cg8:Chg gb (gb+1) w8 w9:=⟨by rw[e9];rfl,by rw[e9];rfl,by rw[e9];rfl,by omega,fun i hi hn=>by
  rw[e9]
  exact(Below.heap_setCell _ ⟨gb,1,none⟩ _ i (fun e=>by have e2:i=gb:=e;omega)).trans (Below.heap_setCell _ ⟨gb,0,none⟩ _ i (fun e=>by have e2:i=gb:=e;omega))⟩
 have HP9:=Lib.hid (hP1.chg cg8 (by omega))
 have HQ9:=Lib.hid (hQ1.chg cg8 (by omega))
 clear hP1 hQ1 hT1 hT2 cg8
 refine⟨_,rfl,by rfl,?_⟩
 go_simp
 rw[←e9]
 clear e9 HB8 HM8 HK8 HT8 HC8 hC r0 r1 f0 f1 rl ha8 hgb
 have gl:=HG9.out.lt
 go_wp2_with fail
 refine wp_region_tz 0 (fun _=>.cells #[] 0) (fun _ _=>undef) (fun W=>Arr W w2.heap.size 25 #[.int .i64 g.w,.int .i64 g.h]∧Arr W gb 32 #[.slice AP (makeT g (1+(x:Int))).length cP,.slice AQ (makeT g (1+(u:Int))).length cQ]) 8 [(0,.quiet),(1,.quiet),(2,.quiet),(3,.quiet),(4,.quiet),(5,.chain),(6,.chain),(7,.chain)] (by kernel_rfl) (by kernel_rfl) (by kernel_rfl) (by kernel_rfl) (by kernel_rfl) (by kernel_rfl) (by kernel_rfl) (by kernel_rfl) ⟨HT9.out,HG9.out⟩ ⟨fun W o h=>⟨h.1.below (bw_alloc _ (bw_refl _)),h.2.below (bw_alloc _ (bw_refl _))⟩,fun W h=>Nat.zero_le _⟩ (fun W=>W=w9.drew) rfl (fun e=>by cases e) ?_
 refine wpTz_v (some 23) (.agg #[.int .i64 g.w,.int .i64 g.h]) rfl rfl (by rfl) (fun W hC=>?_) ?_
 ·have h0:W.cell? ⟨w2.heap.size,0,none⟩=some (.int .i64 g.w):=hC.1.cell 0
  have h1:W.cell? ⟨w2.heap.size,1,none⟩=some (.int .i64 g.h):=hC.1.cell 1
  have hl:=hC.1.lt
  clear hC
  go_simp
  try rfl
 try simp only[Act.put,nms]
 refine wpTz_v (some 24) (.agg #[.int .i64 g.w,.int .i64 g.h,.slice none 0 0]) rfl rfl (by rfl) (fun W hC=>?_) ?_
 ·clear hC
  go_simp
  try rfl
 try simp only[Act.put,nms]
 refine wpTz_v (some 25) (.agg #[.slice AP (makeT g (1+(x:Int))).length cP,.slice AQ (makeT g (1+(u:Int))).length cQ]) rfl rfl (by rfl) (fun W hC=>?_) ?_
 ·have h0:W.cell? ⟨gb,0,none⟩=some (.slice AP (makeT g (1+(x:Int))).length cP):=hC.2.cell 0
  have h1:W.cell? ⟨gb,1,none⟩=some (.slice AQ (makeT g (1+(u:Int))).length cQ):=hC.2.cell 1
  have hl:=hC.2.lt
  clear hC
  go_simp
  try rfl
 try simp only[Act.put,nms]
 refine wpTz_v (some 26) (.pointer (some ⟨b,0,none⟩)) rfl rfl (by rfl) (fun W hC=>?_) ?_
 ·clear hC
  go_simp
  try rfl
 try simp only[Act.put,nms]
 refine wpTz_v (some 27) (.agg #[.int .i64 g.w,.int .i64 g.h]) rfl rfl (by rfl) (fun W hC=>?_) ?_
 ·have h0:W.cell? ⟨w2.heap.size,0,none⟩=some (.int .i64 g.w):=hC.1.cell 0
  have h1:W.cell? ⟨w2.heap.size,1,none⟩=some (.int .i64 g.h):=hC.1.cell 1
  have hl:=hC.1.lt
  clear hC
  go_simp
  try rfl
 try simp only[Act.put,nms]
 refine wpTz_c (some 28) rfl rfl (by rfl) ((w9,[],none,0):World × List Packet × Option Addr × Nat) (fun y=>.slice y.2.2.1 y.2.1.length y.2.2.2) (fun y W=>W=y.1∧Drawn g y.2.1∧kP.R 38 y.1 w9.heap.size (fun _=>True) (.slice y.2.2.1 y.2.1.length y.2.2.2) y.2.1∧w9.grownBy y.1 (some b)) (fun W hF hC=>?_) (fun yy=>?_)
 ·subst hF
  refine LoOp.enter (by go_simp;first|done|exact⟨rfl,rfl⟩|rfl) ?_
  refine(spec_l16Packets b _ g _ (HC9.out.below (bw_drew (bw_refl _))) g1 g2 g3 g4 gn).mono ?_
  rintro e W1 ⟨l,v,rfl,hd,hr,_,hg1⟩
  obtain⟨A',c',rfl⟩:=Kd.R_slice hr
  have hg2:w9.grownBy W1 (some b):=⟨hg1.os,hg1.tape,hg1.output,hg1.size,hg1.block⟩
  exact⟨_,rfl,(W1,l,A',c'),rfl,⟨arr_gt HT9.out hg2 (by omega),arr_gt HG9.out hg2 (by omega)⟩,rfl,hd,hr,hg2⟩
 obtain⟨wy,l,D,d⟩:=yy
 dsimp only
 try simp only[Act.put,nms]
 refine wpTz_c none rfl rfl (by rfl) () (fun _=>undef) (fun _ W=>W=(((wy.setCell ⟨w.heap.size,0,none⟩ (.int .i64 g.w)).setCell ⟨w.heap.size,1,none⟩ (.int .i64 g.h)).setCell ⟨w.heap.size,2,none⟩ (.slice none 0 0))∧Drawn g l∧kP.R 38 wy w9.heap.size (fun _=>True) (.slice D l.length d) l∧w9.grownBy wy (some b)) (fun W hF hC=>?_) (fun _=>?_)
 ·obtain⟨rfl,hd,hr,hg⟩:=hF
  have hM:=arr_gt HM9.out hg (by omega)
  have m0:W.cell? ⟨w.heap.size,0,none⟩=some (.int .i64 0):=hM.cell 0
  have m1:W.cell? ⟨w.heap.size,1,none⟩=some (.int .i64 0):=hM.cell 1
  have m2:W.cell? ⟨w.heap.size,2,none⟩=some (.slice none 0 0):=hM.cell 2
  have n0:=hM.frozen 0
  have n1:=hM.frozen 1
  have n2:=hM.frozen 2
  have ml:=hM.lt
  refine LoOp.skip rfl (w1:=(((W.setCell ⟨w.heap.size,0,none⟩ (.int .i64 g.w)).setCell ⟨w.heap.size,1,none⟩ (.int .i64 g.h)).setCell ⟨w.heap.size,2,none⟩ (.slice none 0 0))) ?_ ⟨(),rfl,⟨((hC.1.other w.heap.size 0 _ (by omega)).other w.heap.size 1 _ (by omega)).other w.heap.size 2 _ (by omega),((hC.2.other w.heap.size 0 _ (by omega)).other w.heap.size 1 _ (by omega)).other w.heap.size 2 _ (by omega)⟩,rfl,hd,hr,hg⟩
  clear hC hr hg hd hM
  go_simp
  try rfl
 try simp only[Act.put,nms]
 refine wpTz_c none rfl rfl (by rfl) () (fun _=>undef) (fun _ W=>W=((((wy.setCell ⟨w.heap.size,0,none⟩ (.int .i64 g.w)).setCell ⟨w.heap.size,1,none⟩ (.int .i64 g.h)).setCell ⟨w.heap.size,2,none⟩ (.slice none 0 0)).setCell ⟨w.heap.size+1,0,none⟩ (.slice AP (makeT g (1+(x:Int))).length cP)).setCell ⟨w.heap.size+1,1,none⟩ (.slice AQ (makeT g (1+(u:Int))).length cQ)∧Drawn g l∧kP.R 38 wy w9.heap.size (fun _=>True) (.slice D l.length d) l∧w9.grownBy wy (some b)) (fun W hF hC=>?_) (fun _=>?_)
 ·obtain⟨rfl,hd,hr,hg⟩:=hF
  have hK:=((((arr_gt HK9.out hg (by omega)).other w.heap.size 0 (.int .i64 g.w) (by omega)).other w.heap.size 1 (.int .i64 g.h) (by omega)).other w.heap.size 2 (.slice none 0 0) (by omega))
  obtain⟨wz,ez⟩:∃ z,z=(((wy.setCell ⟨w.heap.size,0,none⟩ (.int .i64 g.w)).setCell ⟨w.heap.size,1,none⟩ (.int .i64 g.h)).setCell ⟨w.heap.size,2,none⟩ (.slice none 0 0)):=⟨_,rfl⟩
  rw[←ez] at hK hC ⊢
  have m0:wz.cell? ⟨w.heap.size+1,0,none⟩=some (.slice none 0 0):=hK.cell 0
  have m1:wz.cell? ⟨w.heap.size+1,1,none⟩=some (.slice none 0 0):=hK.cell 1
  have n0:=hK.frozen 0
  have n1:=hK.frozen 1
  have ml:=hK.lt
  refine LoOp.skip rfl (w1:=(wz.setCell ⟨w.heap.size+1,0,none⟩ (.slice AP (makeT g (1+(x:Int))).length cP)).setCell ⟨w.heap.size+1,1,none⟩ (.slice AQ (makeT g (1+(u:Int))).length cQ)) ?_ ⟨(),rfl,⟨(hC.1.other (w.heap.size+1) 0 _ (by omega)).other (w.heap.size+1) 1 _ (by omega),(hC.2.other (w.heap.size+1) 0 _ (by omega)).other (w.heap.size+1) 1 _ (by omega)⟩,by rw[ez],hd,hr,hg⟩
  clear hC hr hg hd hK ez
  go_simp
  try rfl
 try simp only[Act.put,nms]
 refine wpTz_z (fun wf hF hC=>?_)
 obtain⟨ef,hd,hr,hg⟩:=hF
 clear hC
 have hMz:=(((((arr_gt HM9.out hg (by omega)).set 0 (.int .i64 g.w)).set 1 (.int .i64 g.h)).set 2 (.slice none 0 0)).other (w.heap.size+1) 0 (.slice AP (makeT g (1+(x:Int))).length cP) (by omega)).other (w.heap.size+1) 1 (.slice AQ (makeT g (1+(u:Int))).length cQ) (by omega)
 have hKz:=((((((arr_gt HK9.out hg (by omega)).other w.heap.size 0 (.int .i64 g.w) (by omega)).other w.heap.size 1 (.int .i64 g.h) (by omega)).other w.heap.size 2 (.slice none 0 0) (by omega)).set 0 (.slice AP (makeT g (1+(x:Int))).length cP)).set 1 (.slice AQ (makeT g (1+(u:Int))).length cQ))
 rw[←ef] at hMz hKz
 have hBy:Below w.heap.size w wy:=bw_cur HB9.out hg (by omega)
 have HBf:Hid (Below w.heap.size w wf):=Lib.hid (by rw[ef];exact low_set (low_set (low_set (low_set (low_set hBy (Nat.le_refl _) 0 _) (Nat.le_refl _) 1 _) (Nat.le_refl _) 2 _) (by omega) 0 _) (by omega) 1 _)
 have cgf:Chg w.heap.size (w.heap.size+2) wy wf:=⟨by rw[ef];rfl,by rw[ef];rfl,by rw[ef];rfl,by rw[ef];simp only[szs];omega,fun i hi hn=>by
  rw[ef]
  have hs:∀ (W:World) (o j:Nat) (v:Value),i≠o→(W.setCell ⟨o,j,none⟩ v).heap[i]?=W.heap[i]?:=fun W o j v h=>Below.heap_setCell W ⟨o,j,none⟩ v i h
  rw[hs _ _ _ _ (by omega),hs _ _ _ _ (by omega),hs _ _ _ _ (by omega),hs _ _ _ _ (by omega),hs _ _ _ _ (by omega)]⟩
 have cgb:Chg b (b+1) w9 wy:=⟨hg.os,hg.tape,hg.output,hg.size,fun i hi hn=>hg.block i hi (fun e=>by have:=Option.some.inj e;omega)⟩
 have HPf:=Lib.hid ((HP9.out.chg cgb (by omega)).chg cgf (by omega)).reads.2.2
 have HQf:=Lib.hid ((HQ9.out.chg cgb (by omega)).chg cgf (by omega)).reads.2.2
 have HRf:=Lib.hid ((RU.of hr (Nat.le_refl _) (Nat.le_refl _)).chg cgf (by omega)).reads.2.2
 have HMz:=Lib.hid hMz;have HKz:=Lib.hid hKz;have HD:=Lib.hid hd
 clear hMz hKz hd hr hg hBy cgf cgb ef
 refine⟨_,rfl,by rfl,?_⟩
 go_simp
 go_wp2
 exact bodyPost_ret (results_cells2 Tryz.results8 _ _ w.heap.size (w.heap.size+1) 28 32 _ _ (0,0) (0,0) _ _ rfl rfl HMz.out HKz.out Tryz.underlying28 Tryz.underlying32 rfl rfl (by kernel_rfl) (by kernel_rfl)) rfl ⟨⟨g,1+(x:Int),1+(u:Int),l,AP,AQ,D,cP,cQ,d,rfl,⟨g1,g2,g3,g4,gn⟩,⟨by omega,by omega,by omega,by omega⟩,HD.out,HPf.out,HQf.out,HRf.out⟩,HBf.out⟩
end Go.Proofs.YtodbglncccgdbaaGreat
