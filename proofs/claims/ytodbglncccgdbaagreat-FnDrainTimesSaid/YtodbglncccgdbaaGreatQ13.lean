/- Lemmas for laws of this seat, for all inputs: Snd SndP New MarkM MarkN NY Idle Run Put. -/
import Derived.Test.YtodbglncccgdbaaGreatQ8
import Derived.Test.YtodbglncccgdbaaGreatQ12
import Derived.Test.YtodbglncccgdbaaGreatQ3
set_option linter.unusedVariables false
set_option linter.unusedSimpArgs false
namespace Go.Proofs.YtodbglncccgdbaaGreat
open Go.RowKit Go.Proofs.YtodbglncccgdbaaGreatW.PrintWords
open NoC
def flitAt (p:Packet) (k:Nat):Flit:=⟨p.id,p.dst,p.cls,(k:Int) == 0,(k:Int) == p.len - 1⟩
def flitsTo (p:Packet) (k:Nat):List Flit:=(List.range k).map (flitAt p)
theorem flitsTo_succ (p:Packet) (k:Nat):flitsTo p (k+1)=flitsTo p k++[flitAt p k]:=by simp[flitsTo,List.range_succ]
theorem flitsTo_len (p:Packet) (k:Nat):(flitsTo p k).length=k:=by simp[flitsTo]
theorem flitsOf_yes {g:Grid} {p:Packet} (h:packetOk g p=true):flitsOf g p=flitsTo p p.len.toNat:=by
  unfold flitsOf flitsTo
  rw[if_pos h]
  apply List.map_congr_left
  intro i _
  have e:(i == 0)=((i:Int) == 0):=by
    by_cases h0:i=0
    · subst h0;rfl
    · rw[beq_eq_false_iff_ne.2 h0,beq_eq_false_iff_ne.2 (by omega)]
  unfold flitAt
  rw[e]
theorem flitsOf_no {g:Grid} {p:Packet} (h:packetOk g p=false):flitsOf g p=[]:=by
  unfold flitsOf
  rw[if_neg (by simp[h])]
theorem packet_parts {g:Grid} {p:Packet} (h:packetOk g p=true):isNode g p.src=true∧isNode g p.dst=true∧0≤p.cls∧p.cls≤1∧1≤p.len∧p.len≤5:=by
  simp only[packetOk,Bool.and_eq_true] at h
  have h1:=inside_iff.1 h.1.2
  have h2:=inside_iff.1 h.2
  exact⟨h.1.1.1.1.2,h.1.1.1.2,h1.1,h1.2,h2.1,h2.2⟩
theorem flitsOf_len {g:Grid} {p:Packet} (h:packetOk g p=true):((flitsOf g p).length:Int)=p.len:=by
  rw[flitsOf_yes h,flitsTo_len]
  have:=packet_parts h
  omega
set_option maxHeartbeats 4000000 in
theorem impl_FlitsOf (g:Grid) (p:Packet) (w:World):Calls Tryz.prog 118 #[.agg #[.int .i64 g.w,.int .i64 g.h],.agg #[.int .i64 p.id,.int .i64 p.src,.int .i64 p.dst,.int .i64 p.cls,.int .i64 p.len]] w fun e w'=>GotF w w' (flitsOf g p) e∧Below w.heap.size w w':=by
  cases hk:packetOk g p
  · have HE:=Lib.hid (flitsOf_no hk)
    rw[HE.out]
    have HL0:Hid (kF.R 153 (((w.alloc (.cells #[.int .i64 g.w,.int .i64 g.h] 25)).alloc (.cells #[.int .i64 p.id,.int .i64 p.src,.int .i64 p.dst,.int .i64 p.cls,.int .i64 p.len] 38)).alloc (.cells #[] 153)) w.heap.size (fun _=>True) (.slice (some ⟨w.heap.size+1+1,0,none⟩) 0 0) []):=Lib.hid (R_lit kF (lit_new (by simp only[szs])) (by omega))
    go_enter Tryz.func118,Tryz.ntmps118
    go_wp2_with (go_at_call 43;refine(impl_PacketOk g p _).mono ?_;rintro e w1 ⟨he,Ba⟩;rw[hk] at he;subst he;obtain⟨Ca,Fa,Za⟩:=bcell Ba;(try simp only[szs] at Za);have Bb:=far2;obtain⟨Cb,Fb,Zb⟩:=bcell Bb;(try simp only[szs] at Zb);try (first|obtain⟨Ya,Yb,Yc,Yd⟩:=lts4 Zb|obtain⟨Ya,Yb,Yc⟩:=lts3 Zb|obtain⟨Ya,Yb⟩:=lts2 Zb|have Ya:=lts1 Zb);have hb9:=Ba)
    go_ret
    exact⟨⟨_,rfl,Kd.R_below HL0.out Ba⟩,bel⟩
  · have HE:=Lib.hid (flitsOf_yes hk)
    obtain⟨_,_,_,_,n1,n5⟩:=packet_parts hk
    rw[HE.out]
    obtain⟨N,hN⟩:∃ N:Nat,p.len=(N:Int):=⟨p.len.toNat,by omega⟩
    have HN:Hid (p.len.toNat=N):=Lib.hid (by rw[hN];exact Int.toNat_natCast N)
    have HLN:=Lib.hid hN
    have N5:N≤5:=by omega
    clear hN
    rw[HN.out]
    have XP:Hid (Box (((w.alloc (.cells #[.int .i64 g.w,.int .i64 g.h] 25)).alloc (.cells #[.int .i64 p.id,.int .i64 p.src,.int .i64 p.dst,.int .i64 p.cls,.int .i64 p.len] 38)).alloc (.cells #[] 153)) (w.heap.size+1) #[.int .i64 p.id,.int .i64 p.src,.int .i64 p.dst,.int .i64 p.cls,.int .i64 p.len]):=Lib.hid ((Box.new _ _ _ _ (by simp only[szs])).alloc _)
    go_enter Tryz.func118,Tryz.ntmps118
    go_wp2_with fail
    refine(impl_PacketOk g p _).mono ?_
    rintro e w1 ⟨he,Ba⟩
    rw[hk] at he
    subst he
    have HB1:Hid (Below w.heap.size w w1):=Lib.hid bel
    have HR1:Hid (kF.R 153 w1 (w.heap.size+2) (fun _=>True) (.slice (some ⟨w.heap.size+2,0,none⟩) 0 0) []):=Lib.hid (Kd.R_below (R_lit kF (lit_new (by simp only[szs])) (Nat.le_refl _)) Ba)
    have HX1:=Lib.hid (XP.out.below Ba)
    have x4:w1.cell? ⟨w.heap.size+1,4,none⟩=some (.int .i64 p.len):=HX1.out.get 4
    have xl:=HX1.out.lt
    clear Ba XP hk
    go_wp2_with fail
    go_loopw [5,15] (fun v i wr=>∃ k:Nat,i=.int .i64 k∧k≤N∧Hid (kF.R 153 wr (w.heap.size+2) (fun _=>True) v (flitsTo p k))∧Hid (Box wr (w.heap.size+1) #[.int .i64 p.id,.int .i64 p.src,.int .i64 p.dst,.int .i64 p.cls,.int .i64 p.len])∧Hid (Below w.heap.size w wr)) (fun _ i _=>N - (intOf i).toNat)
    case atStart=>exact⟨0,rfl,Nat.zero_le _,Lib.hid HR1.out,Lib.hid HX1.out,Lib.hid HB1.out⟩
    case round=>
      clear HR1 HX1 HB1 x4 xl
      obtain⟨k,rfl,hk,HO,HX,HB⟩:=hrel
      obtain⟨wk,ewk⟩:∃ z,z=wr:=⟨_,rfl⟩
      subst ewk
      have xl:=HX.out.lt
      have ll:=flitsTo_len p k
      have hL:(flitsTo p k).length≤100:=by omega
      obtain⟨L,eL⟩:∃ L,flitsTo p k=L:=⟨_,rfl⟩
      have HS:Hid (flitsTo p (k+1)=L++[flitAt p k]):=Lib.hid (by rw[flitsTo_succ,eL])
      have HL:Hid (flitsTo p k=L):=Lib.hid eL
      rw[eL] at HO hL
      clear ll eL
      obtain⟨Av,cv,rfl⟩:=Kd.R_slice HO.out
      have x0:wk.cell? ⟨w.heap.size+1,0,none⟩=some (.int .i64 p.id):=HX.out.get 0
      have x2:wk.cell? ⟨w.heap.size+1,2,none⟩=some (.int .i64 p.dst):=HX.out.get 2
      have x3:wk.cell? ⟨w.heap.size+1,3,none⟩=some (.int .i64 p.cls):=HX.out.get 3
      have x4:wk.cell? ⟨w.heap.size+1,4,none⟩=some (.int .i64 p.len):=HX.out.get 4
      have zk:=HB.out.size
      by_cases hlt:k<N
      · have hk1:(k:Int)<p.len:=by have:=HLN.out;omega
        have k0:(0:Int)≤(k:Int):=by omega
        have hB2:w.heap.size+2≤wk.heap.size:=by omega
        go_wp2_with (at_builtin;refine app_Fg (B:=w.heap.size+2) rfl (.tmp 18) (.tmp 33) rfl _ L (flitAt p k) rfl (by first|rfl|exact congrArg (fun z=>Value.slice (some ⟨z,0,none⟩) 1 1) (World.size_alloc _ _).symm) HO.out hB2 (by omega) ?_;intro v1 w3 HO1 hg1 ha1)
        go_roundw
        case rel=>exact⟨k+1,by go_num,by omega,Lib.hid (by rw[HS.out];exact HO1),Lib.hid (HX.out.grown hg1 (fun e=>by have:=Kd.R_base HO.out _ e.symm;omega)),Lib.hid (HB.out.grown hg1 HB.out.size (fun i hi=>by have:=Kd.R_base HO.out i hi;omega))⟩
        case measure=>simp[intOf];omega
      · obtain rfl:k=N:=by omega
        have hk1:¬ (k:Int)<p.len:=by have:=HLN.out;omega
        have h9:kF.R 153 wk (w.heap.size+2) (fun _=>True) (.slice Av L.length cv) (flitsTo p k):=by rw[HL.out];exact HO.out
        go_wp2
        go_ret
        exact⟨⟨_,rfl,Kd.R_lower h9 (by omega)⟩,HB.out⟩
set_option maxHeartbeats 4000000 in
theorem spec_FlitsOf (g:Grid) (p:Packet) (w:World):Calls Tryz.prog 182 #[.agg #[.int .i64 g.w,.int .i64 g.h],.agg #[.int .i64 p.id,.int .i64 p.src,.int .i64 p.dst,.int .i64 p.cls,.int .i64 p.len]] w fun e w'=>GotF w w' (flitsOf g p) e∧Below w.heap.size w w':=by
 have XP:Hid (Box (((w.alloc (.cells #[.int .i64 g.w,.int .i64 g.h] 25)).alloc (.cells #[.int .i64 p.id,.int .i64 p.src,.int .i64 p.dst,.int .i64 p.cls,.int .i64 p.len] 38)).alloc (.cells #[] 153)) (w.heap.size+1) #[.int .i64 p.id,.int .i64 p.src,.int .i64 p.dst,.int .i64 p.cls,.int .i64 p.len]):=Lib.hid ((Box.new _ _ _ _ (by simp only[szs])).alloc _)
 have XG:Hid (Box (((w.alloc (.cells #[.int .i64 g.w,.int .i64 g.h] 25)).alloc (.cells #[.int .i64 p.id,.int .i64 p.src,.int .i64 p.dst,.int .i64 p.cls,.int .i64 p.len] 38)).alloc (.cells #[] 153)) w.heap.size #[.int .i64 g.w,.int .i64 g.h]):=Lib.hid (((Box.new _ _ _ _ rfl).alloc _).alloc _)
 have HB1:Hid (Below w.heap.size w (((w.alloc (.cells #[.int .i64 g.w,.int .i64 g.h] 25)).alloc (.cells #[.int .i64 p.id,.int .i64 p.src,.int .i64 p.dst,.int .i64 p.cls,.int .i64 p.len] 38)).alloc (.cells #[] 153))):=Lib.hid bel
 have HR1:Hid (kF.R 153 (((w.alloc (.cells #[.int .i64 g.w,.int .i64 g.h] 25)).alloc (.cells #[.int .i64 p.id,.int .i64 p.src,.int .i64 p.dst,.int .i64 p.cls,.int .i64 p.len] 38)).alloc (.cells #[] 153)) (w.heap.size+2) (fun _=>True) (.slice (some ⟨w.heap.size+2,0,none⟩) 0 0) []):=Lib.hid (R_lit kF (lit_new (by simp only[szs])) (Nat.le_refl _))
 obtain⟨N,hN⟩:∃ N:Nat,N=if packetOk g p=true then p.len.toNat else 0:=⟨_,rfl⟩
 have HE:Hid (flitsOf g p=flitsTo p N):=Lib.hid (by
  rw[hN]
  cases hk:packetOk g p
  ·rw[flitsOf_no hk];rfl
  ·rw[flitsOf_yes hk];rfl)
 have HP:Hid (packetOk g p=true→p.len=(N:Int)∧N≤5):=Lib.hid (fun h=>by
  have:=packet_parts h
  rw[hN,if_pos h]
  omega)
 have HQ:Hid (packetOk g p=false→N=0):=Lib.hid (fun h=>by rw[hN,if_neg (by simp[h])])
 clear hN
 rw[HE.out]
 go_enter Tryz.func182,Tryz.ntmps182
 go_wp2_with fail
 go_loopw [5,6] (fun v i wr=>∃ k:Nat,i=.int .i64 k∧k≤N∧Hid (kF.R 153 wr (w.heap.size+2) (fun _=>True) v (flitsTo p k))∧Hid (Box wr (w.heap.size+1) #[.int .i64 p.id,.int .i64 p.src,.int .i64 p.dst,.int .i64 p.cls,.int .i64 p.len])∧Hid (Box wr w.heap.size #[.int .i64 g.w,.int .i64 g.h])∧Hid (Below w.heap.size w wr)) (fun _ i _=>N - (intOf i).toNat)
 case atStart=>exact⟨0,rfl,Nat.zero_le _,Lib.hid HR1.out,Lib.hid XP.out,Lib.hid XG.out,Lib.hid HB1.out⟩
 case round=>
  clear HR1 XP XG HB1
  obtain⟨k,rfl,hk,HO,HX,HG,HB⟩:=hrel
  obtain⟨wk,ewk⟩:∃ z,z=wr:=⟨_,rfl⟩
  subst ewk
  have xl:=HX.out.lt
  have gl:=HG.out.lt
  have ll:=flitsTo_len p k
  obtain⟨L,eL⟩:∃ L,flitsTo p k=L:=⟨_,rfl⟩
  have HS:Hid (flitsTo p (k+1)=L++[flitAt p k]):=Lib.hid (by rw[flitsTo_succ,eL])
  have HL:Hid (flitsTo p k=L):=Lib.hid eL
  have hL:L.length=k:=by rw[←eL];exact ll
  rw[eL] at HO
  clear ll eL
  obtain⟨Av,cv,rfl⟩:=Kd.R_slice HO.out
  have x0:wk.cell? ⟨w.heap.size+1,0,none⟩=some (.int .i64 p.id):=HX.out.get 0
  have x1:wk.cell? ⟨w.heap.size+1,1,none⟩=some (.int .i64 p.src):=HX.out.get 1
  have x2:wk.cell? ⟨w.heap.size+1,2,none⟩=some (.int .i64 p.dst):=HX.out.get 2
  have x3:wk.cell? ⟨w.heap.size+1,3,none⟩=some (.int .i64 p.cls):=HX.out.get 3
  have x4:wk.cell? ⟨w.heap.size+1,4,none⟩=some (.int .i64 p.len):=HX.out.get 4
  have g0:wk.cell? ⟨w.heap.size,0,none⟩=some (.int .i64 g.w):=HG.out.get 0
  have g1:wk.cell? ⟨w.heap.size,1,none⟩=some (.int .i64 g.h):=HG.out.get 1
  have zk:=HB.out.size
  have HLL:=Lib.hid hL
  clear hL
  have h9:Hid (kF.R 153 wk (w.heap.size+2) (fun _=>True) (.slice Av L.length cv) (flitsTo p k)):=Lib.hid (by rw[HL.out];exact HO.out)
  cases hk2:packetOk g p
  ·obtain rfl:N=0:=HQ.out hk2
   obtain rfl:k=0:=by omega
   by_cases hl:0<p.len
   ·have hl2:((0:Nat):Int)<p.len:=by simpa using hl
    go_wp2_with fail
    refine(spec_PacketOk g p _).mono ?_
    rintro e w5 ⟨he,hb5⟩
    rw[hk2] at he
    subst he
    go_wp2
    go_ret
    exact⟨⟨_,rfl,Kd.R_lower (Kd.R_below h9.out hb5) (by omega)⟩,bw_then HB.out hb5⟩
   ·have hl2:¬ ((0:Nat):Int)<p.len:=by simpa using hl
    go_wp2
    go_ret
    exact⟨⟨_,rfl,Kd.R_lower h9.out (by omega)⟩,HB.out⟩
  ·obtain⟨hlen,N5⟩:=HP.out hk2
   have HLN:=Lib.hid hlen
   clear hlen
   by_cases hlt:k<N
   ·have hk1:(k:Int)<p.len:=by have:=HLN.out;omega
    have k0:(0:Int)≤(k:Int):=by omega
    have l5:p.len≤5:=by have:=HLN.out;omega
    go_wp2_with fail
    refine(spec_PacketOk g p _).mono ?_
    rintro e w5 ⟨he,hb5⟩
    rw[hk2] at he
    subst he
    have HO5:=Lib.hid (Kd.R_below HO.out hb5)
    have HX5:=Lib.hid (HX.out.below hb5)
    have HG5:=Lib.hid (HG.out.below hb5)
    have HB5:Hid (Below w.heap.size w w5):=Lib.hid (bw_then HB.out hb5)
    have zk5:=HB5.out.size
    have y0:w5.cell? ⟨w.heap.size+1,0,none⟩=some (.int .i64 p.id):=HX5.out.get 0
    have y2:w5.cell? ⟨w.heap.size+1,2,none⟩=some (.int .i64 p.dst):=HX5.out.get 2
    have y3:w5.cell? ⟨w.heap.size+1,3,none⟩=some (.int .i64 p.cls):=HX5.out.get 3
    have y4:w5.cell? ⟨w.heap.size+1,4,none⟩=some (.int .i64 p.len):=HX5.out.get 4
    have yl:=HX5.out.lt
    have hB2:w.heap.size+2≤w5.heap.size:=by omega
    have hL100:L.length≤100:=by have:=HLL.out;omega
    clear hb5 x0 x1 x2 x3 x4 g0 g1 hk2
    go_wp2_with (at_builtin;refine app_Fg (B:=w.heap.size+2) rfl (.tmp 19) (.tmp 34) rfl _ L (flitAt p k) rfl (by first|rfl|exact congrArg (fun z=>Value.slice (some ⟨z,0,none⟩) 1 1) (World.size_alloc _ _).symm) HO5.out hB2 (by omega) ?_;intro v1 w3 HO1 hg1 ha1)
    go_roundw
    case rel=>exact⟨k+1,by go_num,by omega,Lib.hid (by rw[HS.out];exact HO1),Lib.hid (HX5.out.grown hg1 (fun e=>by have:=Kd.R_base HO5.out _ e.symm;omega)),Lib.hid (HG5.out.grown hg1 (fun e=>by have:=Kd.R_base HO5.out _ e.symm;omega)),Lib.hid (HB5.out.grown hg1 HB5.out.size (fun i hi=>by have:=Kd.R_base HO5.out i hi;omega))⟩
    case measure=>simp[intOf];omega
   ·obtain rfl:k=N:=by omega
    have hk1:¬ (k:Int)<p.len:=by have:=HLN.out;omega
    go_wp2
    go_ret
    exact⟨⟨_,rfl,Kd.R_lower h9.out (by omega)⟩,HB.out⟩
end Go.Proofs.YtodbglncccgdbaaGreat
namespace Go.Proofs.YtodbglncccgdbaaGreat
open NoC
def sendOk (n:Net) (p:Packet):Bool:=packetOk n.mesh.g p && decide (((rl n.srcs p.src).length:Int)+p.len≤60)
def sendN (n:Net) (p:Packet):Net:={ n with srcs:=n.srcs.set p.src.toNat (rl n.srcs p.src++flitsOf n.mesh.g p) }
def sndN (n:Net) (p:Packet):Net:=if sendOk n p=true then sendN n p else n
theorem flits_ok {g:Grid} {p:Packet} (h:packetOk g p=true):areFl g (flitsOf g p)=true:=by
  obtain⟨_,h2,h3,h4,_,_⟩:=packet_parts h
  rw[flitsOf_yes h]
  unfold areFl flitsTo
  rw[List.all_eq_true]
  intro f hf
  obtain⟨i,_,rfl⟩:=List.mem_map.1 hf
  simp only[flitOk,flitAt,Bool.and_eq_true]
  exact⟨h2,inside_iff.2 ⟨h3,h4⟩⟩
theorem sendN_ok {n:Net} {p:Packet} (ok:netOk n=true) (h:sendOk n p=true):netOk (sendN n p)=true:=by
  obtain⟨c,s1,s2,s3,s4,s5,hb,hs,ho,hu,hm⟩:=netOk_parts ok
  simp only[sendOk,Bool.and_eq_true,decide_eq_true_eq] at h
  obtain⟨hp,hl⟩:=h
  have hfl:=flitsOf_len hp
  rw[inside_iff] at hm
  simp only[netOk,shapeOk,Bool.and_eq_true,decide_eq_true_eq,allI_iff]
  have el:(sendN n p).srcs.length=n.srcs.length:=by simp[sendN]
  rw[el]
  refine⟨⟨⟨⟨⟨⟨c,⟨⟨⟨⟨s1,s2⟩,s3⟩,s4⟩,s5⟩⟩,hb⟩,fun i hi=>?_⟩,fun i hi=>ho i hi⟩,fun i hi=>hu i hi⟩,inside_iff.2 hm⟩
  have h1:=hs i hi
  have nd:=isNode_iff.1 (packet_parts hp).1
  show srcOk n.mesh.g (rl (n.srcs.set p.src.toNat (rl n.srcs p.src++flitsOf n.mesh.g p)) i)=true
  by_cases e:p.src.toNat=i
  · have e2:rl (n.srcs.set p.src.toNat (rl n.srcs p.src++flitsOf n.mesh.g p)) i=rl n.srcs p.src++flitsOf n.mesh.g p:=by
      simp[rl,List.getD_eq_getElem?_getD,e,hi]
    have e3:rl n.srcs p.src=rl n.srcs (i:Int):=by unfold rl;rw[e,Int.toNat_natCast]
    rw[e2,e3]
    rw[e3] at hl
    simp only[srcOk,areFl,Bool.and_eq_true,decide_eq_true_eq,List.all_append] at h1 ⊢
    have h2:=flits_ok hp
    unfold areFl at h2
    refine⟨?_,h1.2,h2⟩
    rw[List.length_append]
    omega
  · have e2:rl (n.srcs.set p.src.toNat (rl n.srcs p.src++flitsOf n.mesh.g p)) i=rl n.srcs i:=by
      simp[rl,List.getD_eq_getElem?_getD,e]
    rw[e2]
    exact h1
theorem sndN_ok {n:Net} {p:Packet} (ok:netOk n=true):netOk (sndN n p)=true:=by
  unfold sndN
  split
  · rename_i h;exact sendN_ok ok h
  · exact ok
theorem sndN_nb {n:Net} {p:Packet} (nb:NB n) (ok:netOk n=true):NB (sndN n p):=by
  unfold sndN
  split
  · rename_i h
    obtain⟨_,_,_,_,_,_,_,hs,_⟩:=netOk_parts (sendN_ok ok h)
    refine⟨nb.h1,nb.h2,nb.h3,nb.h4,nb.h5,nb.h6,by show (n.srcs.set _ _).length≤_;rw[List.length_set];exact nb.h7,nb.h8,nb.h9,fun x hx=>?_,nb.h11⟩
    obtain⟨i,hi,e⟩:∃ i:Nat,i<(sendN n p).srcs.length∧rl (sendN n p).srcs i=x:=by
      obtain⟨i,hi,rfl⟩:=List.getElem_of_mem hx
      exact⟨i,hi,by simp[rl,List.getD_eq_getElem?_getD,hi]⟩
    have h1:=hs i hi
    rw[e] at h1
    simp only[srcOk,Bool.and_eq_true,decide_eq_true_eq] at h1
    omega
  · exact nb
def sndTo (n:Net) (l:List Packet):Nat→Net
  | 0=>n
  | k+1=>sndN (sndTo n l k) (rp l k)
def cntTo (n:Net) (l:List Packet):Nat→Int
  | 0=>0
  | k+1=>cntTo n l k+(if sendOk (sndTo n l k) (rp l k)=true then 1 else 0)
theorem sndTo_ok {n:Net} (ok:netOk n=true) (l:List Packet):∀ k,netOk (sndTo n l k)=true:=by
  intro k
  induction k with
  | zero=>exact ok
  | succ k ih=>exact sndN_ok ih
theorem sndTo_nb {n:Net} (nb:NB n) (ok:netOk n=true) (l:List Packet):∀ k,NB (sndTo n l k):=by
  intro k
  induction k with
  | zero=>exact nb
  | succ k ih=>exact sndN_nb ih (sndTo_ok ok l k)
theorem cntTo_range (n:Net) (l:List Packet):∀ k:Nat,0≤cntTo n l k∧cntTo n l k≤(k:Int):=by
  intro k
  induction k with
  | zero=>simp[cntTo]
  | succ k ih=>
    simp only[cntTo]
    split <;> omega
def canAll (n:Net) (l:List Packet):Bool:=netOk n && decide (l.length≤40)
def sendAllN (n:Net) (l:List Packet):Net:=if canAll n l=true then sndTo n l l.length else n
def sendAllK (n:Net) (l:List Packet):Int:=if canAll n l=true then cntTo n l l.length else -1
def sendPacketN (n:Net) (p:Packet):Net:=if netOk n=true then sndN n p else n
def sendPacketB (n:Net) (p:Packet):Bool:=netOk n && sendOk n p
theorem sendAll_nb {n:Net} {l:List Packet} (nb:NB n):NB (sendAllN n l):=by
  unfold sendAllN
  split
  · rename_i h
    simp only[canAll,Bool.and_eq_true] at h
    exact sndTo_nb nb h.1 l _
  · exact nb
def newN (m:Mesh) (pa pb:List Int):Net:=
  { mesh:=m,pa:=pa,pb:=pb,bufs:=List.replicate (10*(nodeCount m.g).toNat) [],owners:=List.replicate (10*(nodeCount m.g).toNat) (-1),turns:=List.replicate (5*(nodeCount m.g).toNat) 0,srcs:=List.replicate (nodeCount m.g).toNat [],arrs:=List.replicate (nodeCount m.g).toNat [],time:=0 }
def zeroN:Net:=⟨⟨⟨0,0⟩,[]⟩,[],[],[],[],[],[],[],0⟩
def netNewN (m:Mesh) (pa pb:List Int):Net:=if classesOk m pa pb=true then newN m pa pb else zeroN
theorem rl_replicate (k:Nat) (i:Int):rl (List.replicate k []) i=[]:=by
  unfold rl
  rw[List.getD_eq_getElem?_getD,List.getElem?_replicate]
  split <;> rfl
theorem ri_rep {k:Nat} {v:Int} {i:Nat} (h:i<k):ri (List.replicate k v) (i:Int)=v:=by
  rw[ri_get _ i (by simpa using h)]
  simp
theorem newN_ok {m:Mesh} {pa pb:List Int} (h:classesOk m pa pb=true):netOk (newN m pa pb)=true:=by
  have hc:=count_nat m.g
  have e1:∀ i:Nat,rl (newN m pa pb).bufs i=[]:=fun i=>rl_replicate _ _
  have e2:∀ i:Nat,rl (newN m pa pb).srcs i=[]:=fun i=>rl_replicate _ _
  simp only[netOk,shapeOk,Bool.and_eq_true,decide_eq_true_eq,allI_iff]
  refine⟨⟨⟨⟨⟨⟨h,⟨⟨⟨⟨?_,?_⟩,?_⟩,?_⟩,?_⟩⟩,fun i hi=>?_⟩,fun i hi=>?_⟩,fun i hi=>?_⟩,fun i hi=>?_⟩,?_⟩
  · simp only[newN,List.length_replicate];push_cast;omega
  · simp only[newN,List.length_replicate];push_cast;omega
  · simp only[newN,List.length_replicate];push_cast;omega
  · simp only[newN,List.length_replicate];omega
  · simp only[newN,List.length_replicate];omega
  · rw[e1];rfl
  · rw[e2];rfl
  · have:ri (newN m pa pb).owners i=-1:=ri_rep (by simpa [newN] using hi)
    rw[this];rfl
  · have:ri (newN m pa pb).turns i=0:=ri_rep (by simpa [newN] using hi)
    rw[this];rfl
  · rfl
theorem newN_nb {m:Mesh} {pa pb:List Int} (h1:m.br.length≤2097152) (h2:pa.length≤2097152) (h3:pb.length≤2097152):NB (newN m pa pb):=by
  have hc:=count_le m.g
  have hr:∀ k:Nat,∀ x∈(List.replicate k ([]:List Flit)),x.length≤2097152:=fun k x hx=>by rw[(List.mem_replicate.1 hx).2];simp
  refine⟨h1,h2,h3,?_,?_,?_,?_,?_,hr _,hr _,hr _⟩ <;> simp only[newN,List.length_replicate] <;> omega
theorem zeroN_nb:NB zeroN:=by
  refine⟨?_,?_,?_,?_,?_,?_,?_,?_,fun x hx=>?_,fun x hx=>?_,fun x hx=>?_⟩ <;> simp_all [zeroN]
theorem netNew_nb {m:Mesh} {pa pb:List Int} (h1:m.br.length≤2097152) (h2:pa.length≤2097152) (h3:pb.length≤2097152):NB (netNewN m pa pb):=by
  unfold netNewN
  split
  · exact newN_nb h1 h2 h3
  · exact zeroN_nb
end Go.Proofs.YtodbglncccgdbaaGreat
namespace Go.Proofs.YtodbglncccgdbaaGreat
open Go.RowKit Go.Proofs.YtodbglncccgdbaaGreatW.PrintWords
open NoC
def totTo (l:List (List Flit)):Nat→Nat
  | 0=>0
  | i+1=>totTo l i+(rl l i).length
theorem totTo_le {l:List (List Flit)} (h:∀ x∈l,x.length≤2097152):∀ i,i≤l.length→totTo l i≤2097152*i:=by
  intro i
  induction i with
  | zero=>intro _;simp[totTo]
  | succ i ih=>
    intro hi
    have h1:=ih (by omega)
    have h2:=h _ (rl_mem (show i<l.length by omega))
    simp only[totTo]
    omega
def RI (w:World) (lo:Nat) (A:Option Addr) (c:Nat) (xs:List Int):Prop:=xs=[]∨Kd.R (Kd.int .i64) 3 w lo (fun _=>True) (.slice A xs.length c) xs
section
variable {w w1:World} {lo:Nat} {A B:Option Addr} {c d:Nat} {xs ys:List Int}
end
structure NY (w:World) (lo:Nat) (n:Net) (q:NA) (v4 v7 v8:List Value):Prop where
  br:RI w lo q.a1 q.c1 n.mesh.br
  pa:RI w lo q.a2 q.c2 n.pa
  pb:RI w lo q.a3 q.c3 n.pb
  owners:RI w lo q.a5 q.c5 n.owners
  turns:RI w lo q.a6 q.c6 n.turns
  bufs:w.ownsRow lo 145 1 (.slice q.a4 n.bufs.length q.c4) n.bufs.length v4
  srcs:w.ownsRow lo 145 1 (.slice q.a7 n.srcs.length q.c7) n.srcs.length v7
  arrs:w.ownsRow lo 145 1 (.slice q.a8 n.arrs.length q.c8) n.arrs.length v8
  rows:FR w lo (v4++(v7++v8)) (n.bufs++(n.srcs++n.arrs))
  apI:AllAp0 5 (iv n q)
section
variable {w w1:World} {lo:Nat} {n:Net} {q:NA} {v4 v7 v8:List Value}
theorem NX.ny (h:NX w lo n q v4 v7 v8):NY w lo n q v4 v7 v8:=⟨.inr h.br,.inr h.pa,.inr h.pb,.inr h.owners,.inr h.turns,h.bufs,h.srcs,h.arrs,h.rows,h.apI⟩
theorem NY.l4 (h:NY w lo n q v4 v7 v8):v4.length=n.bufs.length:=by have:=h.bufs.1;omega
theorem NY.l7 (h:NY w lo n q v4 v7 v8):v7.length=n.srcs.length:=by have:=h.srcs.1;omega
theorem NY.row4 (h:NY w lo n q v4 v7 v8) (k:Nat) (hk:k<n.bufs.length):kF.R 153 w lo (fun _=>True) (vr v4 k) (rl n.bufs k):=by
  have:=h.rows.row k (by simp;omega)
  rwa [vr_left (by rw[h.l4];exact hk),rl_left hk] at this
theorem NY.row7 (h:NY w lo n q v4 v7 v8) (k:Nat) (hk:k<n.srcs.length):kF.R 153 w lo (fun _=>True) (vr v7 k) (rl n.srcs k):=by
  have:=h.rows.row (n.bufs.length+k) (by simp;omega)
  rw[rl_right,←h.l4,vr_right] at this
  rwa [vr_left (by rw[h.l7];exact hk),rl_left hk] at this
theorem NY.row8 (h:NY w lo n q v4 v7 v8) (k:Nat) (hk:k<n.arrs.length):kF.R 153 w lo (fun _=>True) (vr v8 k) (rl n.arrs k):=by
  have:=h.rows.row (n.bufs.length+(n.srcs.length+k)) (by simp;omega)
  rw[rl_right,rl_right,←h.l4,vr_right,←h.l7,vr_right] at this
  exact this
end
def mk1 (k:Int) (n:Net):Int:=k+n.mesh.br.length
theorem RI_lt {w:World} {lo:Nat} {A:Option Addr} {c:Nat} {xs:List Int} (h:RI w lo A c xs):xs≠[]→∀ i,(Value.slice A xs.length c).ownBlock=some i→lo≤i∧i<w.heap.size:=by
  intro h0 i hi
  rcases h with h|h
  · exact absurd h h0
  · exact⟨Kd.R_base h i hi,Kd.R_lt h i hi⟩
structure NT (hi:Nat) (n:Net) (q:NA) (v4 v7 v8:List Value):Prop where
  br:n.mesh.br≠[]→∀ i,(Value.slice q.a1 n.mesh.br.length q.c1).ownBlock=some i→i<hi
  pa:n.pa≠[]→∀ i,(Value.slice q.a2 n.pa.length q.c2).ownBlock=some i→i<hi
  pb:n.pb≠[]→∀ i,(Value.slice q.a3 n.pb.length q.c3).ownBlock=some i→i<hi
  owners:n.owners≠[]→∀ i,(Value.slice q.a5 n.owners.length q.c5).ownBlock=some i→i<hi
  turns:n.turns≠[]→∀ i,(Value.slice q.a6 n.turns.length q.c6).ownBlock=some i→i<hi
  bufs:∀ j:Nat,j<n.bufs.length→∀ i,(vr v4 j).ownBlock=some i→i<hi
  srcs:∀ j:Nat,j<n.srcs.length→∀ i,(vr v7 j).ownBlock=some i→i<hi
  arrs:∀ j:Nat,j<n.arrs.length→∀ i,(vr v8 j).ownBlock=some i→i<hi
theorem NY.top {w:World} {lo:Nat} {n:Net} {q:NA} {v4 v7 v8:List Value} (h:NY w lo n q v4 v7 v8):NT w.heap.size n q v4 v7 v8:=
  ⟨fun h0 i h9=>(RI_lt h.br h0 i h9).2,fun h0 i h9=>(RI_lt h.pa h0 i h9).2,fun h0 i h9=>(RI_lt h.pb h0 i h9).2,fun h0 i h9=>(RI_lt h.owners h0 i h9).2,fun h0 i h9=>(RI_lt h.turns h0 i h9).2,fun j hj i h9=>Kd.R_lt (h.row4 j hj) i h9,fun j hj i h9=>Kd.R_lt (h.row7 j hj) i h9,fun j hj i h9=>Kd.R_lt (h.row8 j hj) i h9⟩
def idleN (n:Net):Bool:=decide (totTo n.bufs n.bufs.length=0) && decide (totTo n.srcs n.srcs.length=0)
def movesV (n:Net):Int:=((allGrants n).length:Int)+((enteringN n).length:Int)
theorem tot_bound {l:List (List Flit)} (hn:l.length≤2097152) (h:∀ x∈l,x.length≤2097152) (k:Nat) (hk:k≤l.length):(totTo l k:Int)≤4398046511104:=by
  have:=totTo_le h k hk
  omega
theorem impl_flitsIn (l:List (List Flit)) (A:Option Addr) (c:Nat) (w:World) (hr:(kB 153).C w A l.length l) (hn:l.length≤2097152) (hm:Hid (∀ x∈l,x.length≤2097152)) :
    Calls Tryz.prog 66 #[.slice A l.length c] w fun e w'=>e=.returned (.int .i64 (totTo l l.length:Int))∧w=w':=by
  go_enter Tryz.func66,Tryz.ntmps66
  go_wp2
  go_loop [3,8] (fun s i=>∃ k:Nat,i=.int .i64 k∧k≤l.length∧s=.int .i64 (totTo l k:Int)) (fun _ i=>l.length - (intOf i).toNat)
  case atStart=>exact⟨0,rfl,Nat.zero_le _,rfl⟩
  case round=>
    obtain⟨k,rfl,hk,rfl⟩:=hrel
    have hb:=tot_bound hn hm.out k hk
    by_cases hlt:k<l.length
    · obtain⟨b,off,rfl,hb,Ai,ci,p0,hle,hCi⟩:=rdB_at hr k hlt
      have hki:=hm.out _ (rl_mem hlt)
      have hs:((totTo l (k+1):Nat):Int)=(totTo l k:Int)+((rl l k).length:Int):=by simp[totTo]
      have HS:=Lib.hid hs
      clear hs
      go_wp2
      go_round
      case rel=>exact⟨k+1,by go_num,by omega,by rw[HS.out]⟩
      case measure=>simp[intOf];omega
    · obtain rfl:k=l.length:=by omega
      go_wp2
      go_ret
      exact⟨rfl,rfl⟩
theorem spec_l15Sum (l:List (List Flit)) (A:Option Addr) (c:Nat) (w:World) (hr:(kB 153).C w A l.length l) (hn:l.length≤2097152) (hm:Hid (∀ x∈l,x.length≤2097152)) :
    Calls Tryz.prog 175 #[.slice A l.length c] w fun e w'=>e=.returned (.int .i64 (totTo l l.length:Int))∧w=w':=by
  go_enter Tryz.func175,Tryz.ntmps175
  go_wp2
  go_loop [3,4] (fun s i=>∃ k:Nat,i=.int .i64 k∧k≤l.length∧s=.int .i64 (totTo l k:Int)) (fun _ i=>l.length - (intOf i).toNat)
  case atStart=>exact⟨0,rfl,Nat.zero_le _,rfl⟩
  case round=>
    obtain⟨k,rfl,hk,rfl⟩:=hrel
    have hb:=tot_bound hn hm.out k hk
    by_cases hlt:k<l.length
    · obtain⟨b,off,rfl,hb,Ai,ci,p0,hle,hCi⟩:=rdB_at hr k hlt
      have hki:=hm.out _ (rl_mem hlt)
      have hs:((totTo l (k+1):Nat):Int)=(totTo l k:Int)+((rl l k).length:Int):=by simp[totTo]
      have HS:=Lib.hid hs
      clear hs
      go_wp2
      go_round
      case rel=>exact⟨k+1,by go_num,by omega,by rw[HS.out]⟩
      case measure=>simp[intOf];omega
    · obtain rfl:k=l.length:=by omega
      go_wp2
      go_ret
      exact⟨rfl,rfl⟩
theorem idle_1 {n:Net} (h:¬ totTo n.bufs n.bufs.length=0):idleN n=false:=by simp[idleN,h]
theorem idle_2 {n:Net} (h:totTo n.bufs n.bufs.length=0):idleN n=decide (totTo n.srcs n.srcs.length=0):=by simp[idleN,h]
set_option maxHeartbeats 1000000 in
theorem impl_isIdle (n:Net) (q:NA) (bx:Nat) (w:World) (hr:NetR 153 w n q) (hx:Box w bx (netCells n q)) :
    Calls Tryz.prog 58 #[.pointer (some ⟨bx,0,none⟩)] w fun e w'=>e=.returned (.bool (idleN n))∧w=w':=by
  obtain⟨a1,a2,a3,a4,a5,a6,a7,a8,c1,c2,c3,c4,c5,c6,c7,c8⟩:=q;obtain⟨Rbr,Rpa,Rpb,Rbu,Row,Rtu,Rso,Rar,L1,L2,L3,L4,L5,L6,L7,L8,L9,L10,L11⟩:=hr;have M9:=Lib.hid L9;have M10:=Lib.hid L10;have M11:=Lib.hid L11;clear L9 L10 L11;dsimp only [netCells] at *
  have xl:=hx.lt;have x0:w.cell? ⟨bx,0,none⟩=some (.int .i64 n.mesh.g.w):=hx.get 0;have x1:w.cell? ⟨bx,1,none⟩=some (.int .i64 n.mesh.g.h):=hx.get 1;have x2:w.cell? ⟨bx,2,none⟩=some (.slice a1 n.mesh.br.length c1):=hx.get 2;have x3:w.cell? ⟨bx,3,none⟩=some (.slice a2 n.pa.length c2):=hx.get 3;have x4:w.cell? ⟨bx,4,none⟩=some (.slice a3 n.pb.length c3):=hx.get 4;have x5:w.cell? ⟨bx,5,none⟩=some (.slice a4 n.bufs.length c4):=hx.get 5;have x6:w.cell? ⟨bx,6,none⟩=some (.slice a5 n.owners.length c5):=hx.get 6;have x7:w.cell? ⟨bx,7,none⟩=some (.slice a6 n.turns.length c6):=hx.get 7;have x8:w.cell? ⟨bx,8,none⟩=some (.slice a7 n.srcs.length c7):=hx.get 8;have x9:w.cell? ⟨bx,9,none⟩=some (.slice a8 n.arrs.length c8):=hx.get 9;have x10:w.cell? ⟨bx,10,none⟩=some (.int .i64 n.time):=hx.get 10;clear hx
  obtain⟨s,es⟩:∃ s,totTo n.bufs n.bufs.length=s:=⟨_,rfl⟩
  obtain⟨t,et⟩:∃ t,totTo n.srcs n.srcs.length=t:=⟨_,rfl⟩
  have ES:=Lib.hid es
  have ET:=Lib.hid et
  clear es et
  by_cases hs:s=0
  · have HI:Hid (idleN n=decide (t=0)):=Lib.hid (by rw[idle_2 (ES.out.trans hs),ET.out])
    have f1:((s:Int) == 0)=true:=by simp[hs]
    clear hs
    go_enter Tryz.func58,Tryz.ntmps58
    go_wp2_with (first|(go_at_call_of 66 n.srcs;refine(impl_flitsIn n.srcs a7 c7 _ Rso L7 M10).mono ?_;rintro e w' ⟨he,rfl⟩;rw[ET.out] at he;subst he)|(go_at_call_of 66 n.bufs;refine(impl_flitsIn n.bufs a4 c4 _ Rbu L4 M9).mono ?_;rintro e w' ⟨he,rfl⟩;rw[ES.out] at he;subst he))
    go_ret
    exact⟨ret_bool (by rw[HI.out];by_cases h:t=0 <;> simp[h]),rfl⟩
  · have HI:Hid (idleN n=false):=Lib.hid (idle_1 (by rw[ES.out];exact hs))
    have f1:((s:Int) == 0)=false:=by simp[hs]
    clear hs
    go_enter Tryz.func58,Tryz.ntmps58
    go_wp2_with (go_at_call_of 66 n.bufs;refine(impl_flitsIn n.bufs a4 c4 _ Rbu L4 M9).mono ?_;rintro e w' ⟨he,rfl⟩;rw[ES.out] at he;subst he)
    go_ret
    exact⟨ret_bool HI.out.symm,rfl⟩
set_option maxHeartbeats 1000000 in
theorem spec_l20Idle (n:Net) (q:NA) (w:World) (hr:NetR 153 w n q) :
    Calls Tryz.prog 107 #[.agg (netCells n q)] w fun e w'=>e=.returned (.bool (idleN n))∧Below w.heap.size w w':=by
  obtain⟨a1,a2,a3,a4,a5,a6,a7,a8,c1,c2,c3,c4,c5,c6,c7,c8⟩:=q;obtain⟨Rbr,Rpa,Rpb,Rbu,Row,Rtu,Rso,Rar,L1,L2,L3,L4,L5,L6,L7,L8,L9,L10,L11⟩:=hr;have M9:=Lib.hid L9;have M10:=Lib.hid L10;have M11:=Lib.hid L11;clear L9 L10 L11;dsimp only [netCells] at *
  obtain⟨s,es⟩:∃ s,totTo n.bufs n.bufs.length=s:=⟨_,rfl⟩
  obtain⟨t,et⟩:∃ t,totTo n.srcs n.srcs.length=t:=⟨_,rfl⟩
  have ES:=Lib.hid es
  have ET:=Lib.hid et
  clear es et
  by_cases hs:s=0
  · have HI:Hid (idleN n=decide (t=0)):=Lib.hid (by rw[idle_2 (ES.out.trans hs),ET.out])
    have f1:((s:Int) == 0)=true:=by simp[hs]
    clear hs
    go_enter Tryz.func107,Tryz.ntmps107
    go_wp2_with (first|(go_at_call_of 175 n.srcs;refine(spec_l15Sum n.srcs a7 c7 _ (by exact Kd.C_below Rso bel) L7 M10).mono ?_;rintro e w' ⟨he,rfl⟩;rw[ET.out] at he;subst he)|(go_at_call_of 175 n.bufs;refine(spec_l15Sum n.bufs a4 c4 _ (by exact Kd.C_below Rbu bel) L4 M9).mono ?_;rintro e w' ⟨he,rfl⟩;rw[ES.out] at he;subst he))
    go_ret
    exact⟨ret_bool (by rw[HI.out];by_cases h:t=0 <;> simp[h]),bel⟩
  · have HI:Hid (idleN n=false):=Lib.hid (idle_1 (by rw[ES.out];exact hs))
    have f1:((s:Int) == 0)=false:=by simp[hs]
    clear hs
    go_enter Tryz.func107,Tryz.ntmps107
    go_wp2_with (go_at_call_of 175 n.bufs;refine(spec_l15Sum n.bufs a4 c4 _ (by exact Kd.C_below Rbu bel) L4 M9).mono ?_;rintro e w' ⟨he,rfl⟩;rw[ES.out] at he;subst he)
    go_ret
    exact⟨ret_bool HI.out.symm,bel⟩
end Go.Proofs.YtodbglncccgdbaaGreat
namespace Go.Proofs.YtodbglncccgdbaaGreat
open NoC
def runN (n:Net):Nat→Net
  | 0=>n
  | k+1=>stepN (runN n k)
theorem runN_time (n:Net):∀ k:Nat,(runN n k).time=n.time+k:=by
  intro k
  induction k with
  | zero=>simp[runN]
  | succ k ih=>show (runN n k).time+1=_;rw[ih];omega
theorem runN_ok {n:Net} (ok:netOk n=true):∀ k:Nat,n.time+k≤1000000→netOk (runN n k)=true:=by
  intro k
  induction k with
  | zero=>intro _;exact ok
  | succ k ih=>
    intro h
    exact step_ok (ih (by omega)) (by rw[runN_time];omega)
theorem runN_head (n:Net):∀ k:Nat,runN n (k+1)=runN (stepN n) k:=by
  intro k
  induction k with
  | zero=>rfl
  | succ k ih=>show stepN (runN n (k+1))=_;rw[ih];rfl
theorem runN_add (n:Net) (a:Nat):∀ b:Nat,runN n (a+b)=runN (runN n a) b:=by
  intro b
  induction b with
  | zero=>rfl
  | succ b ih=>show stepN (runN n (a+b))=_;rw[ih];rfl
theorem grants_time (n:Net) (t:Int):allGrants { n with time:=t }=allGrants n:=by
  have h1:∀ a:Int,∀ p:Nat,gst { n with time:=t } a p=gst n a p:=by
    intro a p
    induction p with
    | zero=>rfl
    | succ p ih=>
      have hp:∀ us,pick { n with time:=t } a p us=pick n a p us:=fun us=>rfl
      rw[gst,gst,ih,hp]
  have h2:(fun a:Nat=>grantsN { n with time:=t } (a:Int))=fun a:Nat=>grantsN n (a:Int):=by
    funext a
    exact congrArg Prod.snd (h1 a 5)
  unfold allGrants allTo
  rw[h2]
theorem entering_time (n:Net) (t:Int):enteringN { n with time:=t }=enteringN n:=rfl
theorem moves_time (n:Net) (t:Int):movesV { n with time:=t }=movesV n:=by
  unfold movesV
  rw[grants_time,entering_time]
theorem moves_zero {n:Net} (h:movesV n=0):allGrants n=[]∧enteringN n=[]:=by
  unfold movesV at h
  exact⟨List.eq_nil_of_length_eq_zero (by omega),List.eq_nil_of_length_eq_zero (by omega)⟩
theorem step_none {n:Net} (h:movesV n=0):stepN n={ n with time:=n.time+1 }:=step_still (moves_zero h).1 (moves_zero h).2
theorem run_none {n:Net} (h:movesV n=0):∀ k:Nat,runN n k={ n with time:=n.time+k }:=by
  intro k
  induction k with
  | zero=>simp[runN]
  | succ k ih=>
    show stepN (runN n k)=_
    rw[ih,step_none (by rw[moves_time];exact h)]
    simp only[Int.natCast_succ,Int.add_assoc]
theorem tot_zero {l:List (List Flit)}:∀ k,totTo l k=0→∀ i:Nat,i<k→(rl l i).length=0:=by
  intro k
  induction k with
  | zero=>intro _ i hi;omega
  | succ k ih=>
    intro h i hi
    simp only[totTo] at h
    by_cases e:i=k
    · subst e;omega
    · exact ih (by omega) i (by omega)
theorem rl_out {l:List (List Flit)} {i:Int} (h:l.length≤i.toNat):rl l i=[]:=by simp[rl,List.getD_eq_getElem?_getD,h]
theorem idle_moves {n:Net} (h:idleN n=true):movesV n=0:=by
  simp only[idleN,Bool.and_eq_true,decide_eq_true_eq] at h
  have hb:∀ i:Int,rl n.bufs i=[]:=by
    intro i
    by_cases hi:i.toNat<n.bufs.length
    · have:=tot_zero _ h.1 i.toNat hi
      have e:rl n.bufs i=rl n.bufs ((i.toNat:Nat):Int):=by unfold rl;rw[Int.toNat_natCast]
      rw[e]
      exact List.eq_nil_of_length_eq_zero this
    · exact rl_out (by omega)
  have h1:allGrants n=[]:=by
    cases e:allGrants n with
    | nil=>rfl
    | cons g gs=>
      have:=(grants_one (n:=n) (g:=g) (by rw[e];simp)).full
      rw[hb] at this
      simp at this
  have h2:enteringN n=[]:=by
    cases e:enteringN n with
    | nil=>rfl
    | cons a l2=>
      obtain⟨i,_,hi,he⟩:=(enterTo_spec n n.srcs.length).1 a (by rw[show enterTo n n.srcs.length=enteringN n from rfl,e];simp)
      simp only[enters,Bool.and_eq_true,decide_eq_true_eq] at he
      have:=tot_zero _ h.2 i hi
      omega
  unfold movesV
  rw[h1,h2]
  rfl
theorem idle_run {n:Net} (h:idleN n=true) (k:Nat):runN n k={ n with time:=n.time+k }:=run_none (idle_moves h) k
theorem none_stays {n:Net} (h:movesV n=0) (hi:idleN n=false) (k:Nat):idleN (runN n k)=false:=by rw[run_none h k];exact hi
def idleFrom (n:Net) (i:Nat):Nat→Int
  | 0=>-1
  | f+1=>if idleN (runN n i)=true then i else idleFrom n (i+1) f
def toIdleN (n:Net):Int:=if netOk n=true then if n.time+400≤1000000 then idleFrom n 0 401 else -1 else -1
theorem idleFrom_none (n:Net):∀ (f i:Nat),(∀ k:Nat,i≤k→k<i+f→idleN (runN n k)=false)→idleFrom n i f=-1:=by
  intro f
  induction f with
  | zero=>intro i _;rfl
  | succ f ih=>
    intro i h
    rw[idleFrom,if_neg (by rw[h i (by omega) (by omega)];simp)]
    exact ih (i+1) (fun k h1 h2=>h k (by omega) (by omega))
theorem idleFrom_stop {n:Net} {i:Nat} (f:Nat) (h:movesV (runN n i)=0) (hi:idleN (runN n i)=false):idleFrom n i f=-1:=by
  refine idleFrom_none n f i (fun k h1 _=>?_)
  obtain⟨j,rfl⟩:=Nat.exists_eq_add_of_le h1
  rw[runN_add]
  exact none_stays h hi j
theorem idleFrom_range (n:Net):∀ (f i:Nat),idleFrom n i f=-1∨((i:Int)≤idleFrom n i f∧idleFrom n i f<(i:Int)+f):=by
  intro f
  induction f with
  | zero=>intro i;exact .inl rfl
  | succ f ih=>
    intro i
    rw[idleFrom]
    split
    · right;omega
    · rcases ih (i+1) with h|h
      · exact .inl h
      · right;omega
theorem toIdle_range (n:Net):-1≤toIdleN n∧toIdleN n≤400:=by
  unfold toIdleN
  split
  · split
    · have:=idleFrom_range n 401 0
      omega
    · omega
  · omega
def canRunN (n:Net) (steps:Int):Bool:=netOk n && inside steps 0 400 && decide (n.time+steps≤1000000)
def runIdleN (n:Net):Net:=if 0≤toIdleN n then runN n (toIdleN n).toNat else n
theorem step_arrs (n:Net) (t:Nat):(rl (stepN n).arrs t).length≤(rl n.arrs t).length+(allGrants n).length:=by
  have h1:=(enterL_time n (enteringN n) (afterPush n)).2.2.2.2.2.2
  have h2:=(pushL_rows n t (allGrants n) (afterPop n)).2
  have e:(stepN n).arrs=(afterPush n).arrs:=(step_parts n).2.2.2.2.2
  rw[e]
  exact h2
theorem run_parts (n:Net):∀ k:Nat,(runN n k).mesh=n.mesh∧(runN n k).pa=n.pa∧(runN n k).pb=n.pb:=by
  intro k
  induction k with
  | zero=>exact⟨rfl,rfl,rfl⟩
  | succ k ih=>
    obtain⟨e1,e2,e3,_⟩:=step_parts (runN n k)
    exact⟨e1.trans ih.1,e2.trans ih.2.1,e3.trans ih.2.2⟩
theorem run_lens (n:Net):∀ k:Nat,Lens n (runN n k):=by
  intro k
  induction k with
  | zero=>exact⟨rfl,rfl,rfl,rfl,rfl⟩
  | succ k ih=>
    have h:=step_lens (runN n k)
    exact⟨h.b.trans ih.b,h.o.trans ih.o,h.t.trans ih.t,h.s.trans ih.s,h.a.trans ih.a⟩
theorem run_arrs (n:Net) (t:Nat):∀ k:Nat,(rl (runN n k).arrs t).length≤(rl n.arrs t).length+80*k:=by
  intro k
  induction k with
  | zero=>exact Nat.le_refl _
  | succ k ih=>
    have h:=step_arrs (runN n k) t
    have g:=allGrants_len (runN n k)
    have e:runN n (k+1)=stepN (runN n k):=rfl
    rw[e]
    omega
theorem rl_of_mem {l:List (List Flit)} {x:List Flit} (h:x∈l):∃ i:Nat,i<l.length∧rl l i=x:=by
  obtain⟨i,hi,rfl⟩:=List.getElem_of_mem h
  exact⟨i,hi,by simp[rl,List.getD_eq_getElem?_getD,hi]⟩
theorem run_nb {n:Net} (nb:NB n) (hA:∀ x∈n.arrs,x.length≤1048576) (k:Nat) (hk:k≤1000) (ok:netOk (runN n k)=true):NB (runN n k):=by
  obtain⟨e1,e2,e3⟩:=run_parts n k
  have L:=run_lens n k
  obtain⟨c,s1,s2,s3,s4,s5,hb,hs,_⟩:=netOk_parts ok
  refine⟨by rw[e1];exact nb.h1,by rw[e2];exact nb.h2,by rw[e3];exact nb.h3,by rw[L.b];exact nb.h4,by rw[L.o];exact nb.h5,by rw[L.t];exact nb.h6,by rw[L.s];exact nb.h7,by rw[L.a];exact nb.h8,fun x hx=>?_,fun x hx=>?_,fun x hx=>?_⟩
  · obtain⟨i,hi,rfl⟩:=rl_of_mem hx
    have:=(bufOk_iff.1 (hb i hi)).2
    omega
  · obtain⟨i,hi,rfl⟩:=rl_of_mem hx
    have:=hs i hi
    simp only[srcOk,Bool.and_eq_true,decide_eq_true_eq] at this
    omega
  · obtain⟨i,hi,rfl⟩:=rl_of_mem hx
    have h1:=run_arrs n i k
    have hi2:i<n.arrs.length:=by rw[←L.a];exact hi
    have h2:=hA _ (rl_mem hi2)
    omega
end Go.Proofs.YtodbglncccgdbaaGreat
namespace Go.Proofs.YtodbglncccgdbaaGreat
open Go.RowKit Go.Proofs.YtodbglncccgdbaaGreatW.PrintWords
open NoC
theorem cell_low {B:Nat} {w w1:World} (h:Below B w w1) {b:Nat} (hb:b<B) (o:Nat):w1.cell? ⟨b,o,none⟩=w.cell? ⟨b,o,none⟩:=World.cell?_of_block (a:=⟨b,o,none⟩) (h.block b hb)
theorem bw_trans {B C:Nat} {a b c:World} (h:Below B a b) (k:Below C b c) (hc:B≤C):Below B a c:=⟨k.os.trans h.os,k.tape.trans h.tape,k.output.trans h.output,Nat.le_trans h.size k.size,fun i hi=>(k.block i (by omega)).trans (h.block i hi)⟩
theorem box_low {B:Nat} {w w1:World} {b:Nat} {cs:Array Value} (h:Box w b cs) (hb:Below B w w1) (hB:b<B):Box w1 b cs:=⟨Nat.lt_of_lt_of_le h.lt hb.size,fun o=>(cell_low hb hB o).trans (h.get o)⟩
def BN (w:World) (b:Nat):Prop:=∃ cs:Array Value,w.heap[b]?=some (.cells cs 42 (0,0))∧cs.size=11
def putN (w:World) (b:Nat) (n:Net) (q:NA):World:=((((((((((w.setCell ⟨b,0,none⟩ (.int .i64 n.mesh.g.w)).setCell ⟨b,1,none⟩ (.int .i64 n.mesh.g.h)).setCell ⟨b,2,none⟩ (.slice q.a1 n.mesh.br.length q.c1)).setCell ⟨b,3,none⟩ (.slice q.a2 n.pa.length q.c2)).setCell ⟨b,4,none⟩ (.slice q.a3 n.pb.length q.c3)).setCell ⟨b,5,none⟩ (.slice q.a4 n.bufs.length q.c4)).setCell ⟨b,6,none⟩ (.slice q.a5 n.owners.length q.c5)).setCell ⟨b,7,none⟩ (.slice q.a6 n.turns.length q.c6)).setCell ⟨b,8,none⟩ (.slice q.a7 n.srcs.length q.c7)).setCell ⟨b,9,none⟩ (.slice q.a8 n.arrs.length q.c8)).setCell ⟨b,10,none⟩ (.int .i64 n.time)
section
variable {w w1:World} {b:Nat} {n:Net} {q:NA}
theorem BN.below (h:BN w b) (hb:Below w.heap.size w w1):BN w1 b:=let ⟨cs,h1,h2⟩:=h;⟨cs,blk_below h1 hb,h2⟩
theorem BN.low {B:Nat} (h:BN w b) (hb:Below B w w1) (hB:b<B):BN w1 b:=let ⟨cs,h1,h2⟩:=h;⟨cs,(hb.block b hB).trans h1,h2⟩
theorem BN.blk (h:BN w b):BlkT w b 42:=let ⟨cs,h1,_⟩:=h;⟨cs,h1⟩
theorem BT.bn (h:BT w b n q):BN w b:=⟨_,h,rfl⟩
theorem BN.off {c:Nat} (h:BN w b) (hne:b≠c) (j:Nat) (u:Value):BN (w.setCell ⟨c,j,none⟩ u) b:=by
  obtain⟨cs,h1,h2⟩:=h
  exact⟨cs,blk_far (p:=⟨c,j,none⟩) h1 hne u,h2⟩
theorem BN.get (h:BN w b) (i:Nat) (hi:i<11):∃ v,w.cell? ⟨b,i,none⟩=some v:=by
  obtain⟨cs,h1,h2⟩:=h
  exact⟨cs[i],by rw[blk_cell h1 i];exact Array.getElem?_eq_getElem (by omega)⟩
theorem BN.frozen (h:BN w b) (i:Nat):w.frozen? ⟨b,i,none⟩=false:=by
  obtain⟨cs,h1,h2⟩:=h
  exact blk_frozen h1 i
theorem allBN {w:World} {b:Nat} (h:BN w b):(∃ v,w.cell? ⟨b,0,none⟩=some v)∧(∃ v,w.cell? ⟨b,1,none⟩=some v)∧(∃ v,w.cell? ⟨b,2,none⟩=some v)∧(∃ v,w.cell? ⟨b,3,none⟩=some v)∧(∃ v,w.cell? ⟨b,4,none⟩=some v)∧(∃ v,w.cell? ⟨b,5,none⟩=some v)∧(∃ v,w.cell? ⟨b,6,none⟩=some v)∧(∃ v,w.cell? ⟨b,7,none⟩=some v)∧(∃ v,w.cell? ⟨b,8,none⟩=some v)∧(∃ v,w.cell? ⟨b,9,none⟩=some v)∧(∃ v,w.cell? ⟨b,10,none⟩=some v)∧w.frozen? ⟨b,0,none⟩=false∧w.frozen? ⟨b,1,none⟩=false∧w.frozen? ⟨b,2,none⟩=false∧w.frozen? ⟨b,3,none⟩=false∧w.frozen? ⟨b,4,none⟩=false∧w.frozen? ⟨b,5,none⟩=false∧w.frozen? ⟨b,6,none⟩=false∧w.frozen? ⟨b,7,none⟩=false∧w.frozen? ⟨b,8,none⟩=false∧w.frozen? ⟨b,9,none⟩=false∧w.frozen? ⟨b,10,none⟩=false:=⟨h.get 0 (by omega),h.get 1 (by omega),h.get 2 (by omega),h.get 3 (by omega),h.get 4 (by omega),h.get 5 (by omega),h.get 6 (by omega),h.get 7 (by omega),h.get 8 (by omega),h.get 9 (by omega),h.get 10 (by omega),h.frozen 0,h.frozen 1,h.frozen 2,h.frozen 3,h.frozen 4,h.frozen 5,h.frozen 6,h.frozen 7,h.frozen 8,h.frozen 9,h.frozen 10⟩
theorem BN.lt (h:BN w b):b<w.heap.size:=by
  obtain⟨cs,h1,h2⟩:=h
  exact blk_lt h1
theorem list11 {l:List Value} (h:l.length=11):∃ a0 a1 a2 a3 a4 a5 a6 a7 a8 a9 a10,l=[a0,a1,a2,a3,a4,a5,a6,a7,a8,a9,a10]:=by
  match l,h with
  | [a0,a1,a2,a3,a4,a5,a6,a7,a8,a9,a10],_=>exact⟨a0,a1,a2,a3,a4,a5,a6,a7,a8,a9,a10,rfl⟩
theorem putN_BT (h:BN w b):BT (putN w b n q) b n q:=by
  obtain⟨⟨l⟩,h1,h2⟩:=h
  obtain⟨a0,a1,a2,a3,a4,a5,a6,a7,a8,a9,a10,rfl⟩:=list11 h2
  have k1:(w.setCell ⟨b,0,none⟩ (.int .i64 n.mesh.g.w)).heap[b]?=some (.cells #[.int .i64 n.mesh.g.w,a1,a2,a3,a4,a5,a6,a7,a8,a9,a10] 42 (0,0)):=(blk_set h1 0 (.int .i64 n.mesh.g.w)).trans rfl
  have k2:((w.setCell ⟨b,0,none⟩ (.int .i64 n.mesh.g.w)).setCell ⟨b,1,none⟩ (.int .i64 n.mesh.g.h)).heap[b]?=some (.cells #[.int .i64 n.mesh.g.w,.int .i64 n.mesh.g.h,a2,a3,a4,a5,a6,a7,a8,a9,a10] 42 (0,0)):=(blk_set k1 1 (.int .i64 n.mesh.g.h)).trans rfl
  have k3:(((w.setCell ⟨b,0,none⟩ (.int .i64 n.mesh.g.w)).setCell ⟨b,1,none⟩ (.int .i64 n.mesh.g.h)).setCell ⟨b,2,none⟩ (.slice q.a1 n.mesh.br.length q.c1)).heap[b]?=some (.cells #[.int .i64 n.mesh.g.w,.int .i64 n.mesh.g.h,.slice q.a1 n.mesh.br.length q.c1,a3,a4,a5,a6,a7,a8,a9,a10] 42 (0,0)):=(blk_set k2 2 (.slice q.a1 n.mesh.br.length q.c1)).trans rfl
  have k4:((((w.setCell ⟨b,0,none⟩ (.int .i64 n.mesh.g.w)).setCell ⟨b,1,none⟩ (.int .i64 n.mesh.g.h)).setCell ⟨b,2,none⟩ (.slice q.a1 n.mesh.br.length q.c1)).setCell ⟨b,3,none⟩ (.slice q.a2 n.pa.length q.c2)).heap[b]?=some (.cells #[.int .i64 n.mesh.g.w,.int .i64 n.mesh.g.h,.slice q.a1 n.mesh.br.length q.c1,.slice q.a2 n.pa.length q.c2,a4,a5,a6,a7,a8,a9,a10] 42 (0,0)):=(blk_set k3 3 (.slice q.a2 n.pa.length q.c2)).trans rfl
  have k5:(((((w.setCell ⟨b,0,none⟩ (.int .i64 n.mesh.g.w)).setCell ⟨b,1,none⟩ (.int .i64 n.mesh.g.h)).setCell ⟨b,2,none⟩ (.slice q.a1 n.mesh.br.length q.c1)).setCell ⟨b,3,none⟩ (.slice q.a2 n.pa.length q.c2)).setCell ⟨b,4,none⟩ (.slice q.a3 n.pb.length q.c3)).heap[b]?=some (.cells #[.int .i64 n.mesh.g.w,.int .i64 n.mesh.g.h,.slice q.a1 n.mesh.br.length q.c1,.slice q.a2 n.pa.length q.c2,.slice q.a3 n.pb.length q.c3,a5,a6,a7,a8,a9,a10] 42 (0,0)):=(blk_set k4 4 (.slice q.a3 n.pb.length q.c3)).trans rfl
  have k6:((((((w.setCell ⟨b,0,none⟩ (.int .i64 n.mesh.g.w)).setCell ⟨b,1,none⟩ (.int .i64 n.mesh.g.h)).setCell ⟨b,2,none⟩ (.slice q.a1 n.mesh.br.length q.c1)).setCell ⟨b,3,none⟩ (.slice q.a2 n.pa.length q.c2)).setCell ⟨b,4,none⟩ (.slice q.a3 n.pb.length q.c3)).setCell ⟨b,5,none⟩ (.slice q.a4 n.bufs.length q.c4)).heap[b]?=some (.cells #[.int .i64 n.mesh.g.w,.int .i64 n.mesh.g.h,.slice q.a1 n.mesh.br.length q.c1,.slice q.a2 n.pa.length q.c2,.slice q.a3 n.pb.length q.c3,.slice q.a4 n.bufs.length q.c4,a6,a7,a8,a9,a10] 42 (0,0)):=(blk_set k5 5 (.slice q.a4 n.bufs.length q.c4)).trans rfl
  have k7:(((((((w.setCell ⟨b,0,none⟩ (.int .i64 n.mesh.g.w)).setCell ⟨b,1,none⟩ (.int .i64 n.mesh.g.h)).setCell ⟨b,2,none⟩ (.slice q.a1 n.mesh.br.length q.c1)).setCell ⟨b,3,none⟩ (.slice q.a2 n.pa.length q.c2)).setCell ⟨b,4,none⟩ (.slice q.a3 n.pb.length q.c3)).setCell ⟨b,5,none⟩ (.slice q.a4 n.bufs.length q.c4)).setCell ⟨b,6,none⟩ (.slice q.a5 n.owners.length q.c5)).heap[b]?=some (.cells #[.int .i64 n.mesh.g.w,.int .i64 n.mesh.g.h,.slice q.a1 n.mesh.br.length q.c1,.slice q.a2 n.pa.length q.c2,.slice q.a3 n.pb.length q.c3,.slice q.a4 n.bufs.length q.c4,.slice q.a5 n.owners.length q.c5,a7,a8,a9,a10] 42 (0,0)):=(blk_set k6 6 (.slice q.a5 n.owners.length q.c5)).trans rfl
  have k8:((((((((w.setCell ⟨b,0,none⟩ (.int .i64 n.mesh.g.w)).setCell ⟨b,1,none⟩ (.int .i64 n.mesh.g.h)).setCell ⟨b,2,none⟩ (.slice q.a1 n.mesh.br.length q.c1)).setCell ⟨b,3,none⟩ (.slice q.a2 n.pa.length q.c2)).setCell ⟨b,4,none⟩ (.slice q.a3 n.pb.length q.c3)).setCell ⟨b,5,none⟩ (.slice q.a4 n.bufs.length q.c4)).setCell ⟨b,6,none⟩ (.slice q.a5 n.owners.length q.c5)).setCell ⟨b,7,none⟩ (.slice q.a6 n.turns.length q.c6)).heap[b]?=some (.cells #[.int .i64 n.mesh.g.w,.int .i64 n.mesh.g.h,.slice q.a1 n.mesh.br.length q.c1,.slice q.a2 n.pa.length q.c2,.slice q.a3 n.pb.length q.c3,.slice q.a4 n.bufs.length q.c4,.slice q.a5 n.owners.length q.c5,.slice q.a6 n.turns.length q.c6,a8,a9,a10] 42 (0,0)):=(blk_set k7 7 (.slice q.a6 n.turns.length q.c6)).trans rfl
  have k9:(((((((((w.setCell ⟨b,0,none⟩ (.int .i64 n.mesh.g.w)).setCell ⟨b,1,none⟩ (.int .i64 n.mesh.g.h)).setCell ⟨b,2,none⟩ (.slice q.a1 n.mesh.br.length q.c1)).setCell ⟨b,3,none⟩ (.slice q.a2 n.pa.length q.c2)).setCell ⟨b,4,none⟩ (.slice q.a3 n.pb.length q.c3)).setCell ⟨b,5,none⟩ (.slice q.a4 n.bufs.length q.c4)).setCell ⟨b,6,none⟩ (.slice q.a5 n.owners.length q.c5)).setCell ⟨b,7,none⟩ (.slice q.a6 n.turns.length q.c6)).setCell ⟨b,8,none⟩ (.slice q.a7 n.srcs.length q.c7)).heap[b]?=some (.cells #[.int .i64 n.mesh.g.w,.int .i64 n.mesh.g.h,.slice q.a1 n.mesh.br.length q.c1,.slice q.a2 n.pa.length q.c2,.slice q.a3 n.pb.length q.c3,.slice q.a4 n.bufs.length q.c4,.slice q.a5 n.owners.length q.c5,.slice q.a6 n.turns.length q.c6,.slice q.a7 n.srcs.length q.c7,a9,a10] 42 (0,0)):=(blk_set k8 8 (.slice q.a7 n.srcs.length q.c7)).trans rfl
  have k10:((((((((((w.setCell ⟨b,0,none⟩ (.int .i64 n.mesh.g.w)).setCell ⟨b,1,none⟩ (.int .i64 n.mesh.g.h)).setCell ⟨b,2,none⟩ (.slice q.a1 n.mesh.br.length q.c1)).setCell ⟨b,3,none⟩ (.slice q.a2 n.pa.length q.c2)).setCell ⟨b,4,none⟩ (.slice q.a3 n.pb.length q.c3)).setCell ⟨b,5,none⟩ (.slice q.a4 n.bufs.length q.c4)).setCell ⟨b,6,none⟩ (.slice q.a5 n.owners.length q.c5)).setCell ⟨b,7,none⟩ (.slice q.a6 n.turns.length q.c6)).setCell ⟨b,8,none⟩ (.slice q.a7 n.srcs.length q.c7)).setCell ⟨b,9,none⟩ (.slice q.a8 n.arrs.length q.c8)).heap[b]?=some (.cells #[.int .i64 n.mesh.g.w,.int .i64 n.mesh.g.h,.slice q.a1 n.mesh.br.length q.c1,.slice q.a2 n.pa.length q.c2,.slice q.a3 n.pb.length q.c3,.slice q.a4 n.bufs.length q.c4,.slice q.a5 n.owners.length q.c5,.slice q.a6 n.turns.length q.c6,.slice q.a7 n.srcs.length q.c7,.slice q.a8 n.arrs.length q.c8,a10] 42 (0,0)):=(blk_set k9 9 (.slice q.a8 n.arrs.length q.c8)).trans rfl
  have k11:(((((((((((w.setCell ⟨b,0,none⟩ (.int .i64 n.mesh.g.w)).setCell ⟨b,1,none⟩ (.int .i64 n.mesh.g.h)).setCell ⟨b,2,none⟩ (.slice q.a1 n.mesh.br.length q.c1)).setCell ⟨b,3,none⟩ (.slice q.a2 n.pa.length q.c2)).setCell ⟨b,4,none⟩ (.slice q.a3 n.pb.length q.c3)).setCell ⟨b,5,none⟩ (.slice q.a4 n.bufs.length q.c4)).setCell ⟨b,6,none⟩ (.slice q.a5 n.owners.length q.c5)).setCell ⟨b,7,none⟩ (.slice q.a6 n.turns.length q.c6)).setCell ⟨b,8,none⟩ (.slice q.a7 n.srcs.length q.c7)).setCell ⟨b,9,none⟩ (.slice q.a8 n.arrs.length q.c8)).setCell ⟨b,10,none⟩ (.int .i64 n.time)).heap[b]?=some (.cells #[.int .i64 n.mesh.g.w,.int .i64 n.mesh.g.h,.slice q.a1 n.mesh.br.length q.c1,.slice q.a2 n.pa.length q.c2,.slice q.a3 n.pb.length q.c3,.slice q.a4 n.bufs.length q.c4,.slice q.a5 n.owners.length q.c5,.slice q.a6 n.turns.length q.c6,.slice q.a7 n.srcs.length q.c7,.slice q.a8 n.arrs.length q.c8,.int .i64 n.time] 42 (0,0)):=(blk_set k10 10 (.int .i64 n.time)).trans rfl
  exact k11
theorem NX.put {lo:Nat} {m:Net} {p:NA} {v4 v7 v8:List Value} (h:NX w lo m p v4 v7 v8) (hb:BN w b):NX (putN w b n q) lo m p v4 v7 v8:=by
  have b0:=hb.blk
  unfold putN
  have h1:=h.typed b0 (by decide) (by decide) (by decide) 0 (.int .i64 n.mesh.g.w)
  have b1:=b0.set b 0 (.int .i64 n.mesh.g.w)
  have h2:=h1.typed b1 (by decide) (by decide) (by decide) 1 (.int .i64 n.mesh.g.h)
  have b2:=b1.set b 1 (.int .i64 n.mesh.g.h)
  have h3:=h2.typed b2 (by decide) (by decide) (by decide) 2 (.slice q.a1 n.mesh.br.length q.c1)
  have b3:=b2.set b 2 (.slice q.a1 n.mesh.br.length q.c1)
  have h4:=h3.typed b3 (by decide) (by decide) (by decide) 3 (.slice q.a2 n.pa.length q.c2)
  have b4:=b3.set b 3 (.slice q.a2 n.pa.length q.c2)
  have h5:=h4.typed b4 (by decide) (by decide) (by decide) 4 (.slice q.a3 n.pb.length q.c3)
  have b5:=b4.set b 4 (.slice q.a3 n.pb.length q.c3)
  have h6:=h5.typed b5 (by decide) (by decide) (by decide) 5 (.slice q.a4 n.bufs.length q.c4)
  have b6:=b5.set b 5 (.slice q.a4 n.bufs.length q.c4)
  have h7:=h6.typed b6 (by decide) (by decide) (by decide) 6 (.slice q.a5 n.owners.length q.c5)
  have b7:=b6.set b 6 (.slice q.a5 n.owners.length q.c5)
  have h8:=h7.typed b7 (by decide) (by decide) (by decide) 7 (.slice q.a6 n.turns.length q.c6)
  have b8:=b7.set b 7 (.slice q.a6 n.turns.length q.c6)
  have h9:=h8.typed b8 (by decide) (by decide) (by decide) 8 (.slice q.a7 n.srcs.length q.c7)
  have b9:=b8.set b 8 (.slice q.a7 n.srcs.length q.c7)
  have h10:=h9.typed b9 (by decide) (by decide) (by decide) 9 (.slice q.a8 n.arrs.length q.c8)
  have b10:=b9.set b 9 (.slice q.a8 n.arrs.length q.c8)
  have h11:=h10.typed b10 (by decide) (by decide) (by decide) 10 (.int .i64 n.time)
  have b11:=b10.set b 10 (.int .i64 n.time)
  exact h11
theorem below_put {B:Nat} {w0:World} (h:Below B w0 w) (hB:B≤b):Below B w0 (putN w b n q):=by
  unfold putN
  exact below_setc (below_setc (below_setc (below_setc (below_setc (below_setc (below_setc (below_setc (below_setc (below_setc (below_setc h hB 0 _) hB 1 _) hB 2 _) hB 3 _) hB 4 _) hB 5 _) hB 6 _) hB 7 _) hB 8 _) hB 9 _) hB 10 _
end
end Go.Proofs.YtodbglncccgdbaaGreat
