/- Lemmas for laws of this seat, for all inputs: Arr Among ArF Mis Dl Len Cr Rot Wh Si Geo. -/
import Derived.Test.YtodbglncccgdbaaGreatQ18
import Derived.Test.YtodbglncccgdbaaGreatQ10
import Derived.Test.YtodbglncccgdbaaGreatQ11
import Derived.Test.YtodbglncccgdbaaGreatQ3
import Derived.Test.YtodbglncccgdbaaGreatQ13
import Derived.Test.YtodbglncccgdbaaGreatQ12
import Derived.Test.YtodbglncccgdbaaGreatQ9
set_option linter.unusedVariables false
set_option linter.unusedSimpArgs false
namespace Go.Proofs.YtodbglncccgdbaaGreat
open Go.RowKit Go.Proofs.YtodbglncccgdbaaGreatW.PrintWords
open NoC
def arrF (n:Net) (a c:Int):List Flit:=trimF (clsOnly (rl n.arrs a) c)
def lenOf:Value→Nat
  | .slice _ m _=>m
  | _=>0
theorem cut_toF (A:Option Addr) (n c:Nat) (hi:Int) (h0:0≤hi) (h2:hi≤n) (hc:n≤c) (W:World) :
    (Instr.slice 145 (.slice A n c) none (some (.int .i64 hi)) none).run Tryz.prog W=.ok (.slice A hi.toNat c) W:=by
  obtain⟨i,hi',hs⟩:=Option.map_eq_some_iff.1 info_F
  exact cut_to (P:=Tryz.prog) 145 153 .i64 Tryz.underlying145 hi' A n c hi h0 h2 hc W
theorem trimTo_tail {l:List Flit} {k:Nat} (h:(rf l k).tail=true):trimTo l (k+1)=k+1:=by rw[trimTo,if_pos h]
theorem trimTo_on {l:List Flit} {k:Nat} (h:(rf l k).tail=false):trimTo l (k+1)=trimTo l k:=by rw[trimTo,if_neg (by simp[h])]
theorem trimF_at {l:List Flit} {m:Nat} (h:trimTo l m=trimTo l l.length) (h2:trimTo l m=m):l.take m=trimF l:=by rw[trimF,←h,h2]
theorem node_arrs {n:Net} {a:Int} (ok:netOk n=true) (nd:isNode n.mesh.g a=true):0≤a∧a<(n.arrs.length:Int):=by
  obtain⟨_,_,_,_,_,h6,_⟩:=netOk_parts ok
  have:=isNode_iff.1 nd
  omega
theorem rl_memI {l:List (List Flit)} {a:Int} (h0:0≤a) (h1:a<(l.length:Int)):rl l a∈l:=by
  have:=rl_mem (l:=l) (k:=a.toNat) (by omega)
  rwa [Int.toNat_of_nonneg h0] at this
theorem clsOnly_len (l:List Flit) (c:Int):(clsOnly l c).length≤l.length:=List.length_filter_le _ _
set_option maxHeartbeats 4000000 in
set_option maxRecDepth 100000 in
theorem impl_arrived (n:Net) (q:NA) (bx:Nat) (a c:Int) (w:World) (hr:NetR 153 w n q) (hx:Box w bx (netCells n q)) (ok:netOk n=true) (nd:isNode n.mesh.g a=true) :
    Calls Tryz.prog 61 #[.pointer (some ⟨bx,0,none⟩),.int .i64 a,.int .i64 c] w fun e w'=>GotWP w w' (arrF n a c) e∧Below w.heap.size w w':=by
  obtain⟨i0,i1⟩:=node_arrs ok nd
  clear ok nd
  obtain⟨a1,a2,a3,a4,a5,a6,a7,a8,c1,c2,c3,c4,c5,c6,c7,c8⟩:=q;obtain⟨Rbr,Rpa,Rpb,Rbu,Row,Rtu,Rso,Rar,L1,L2,L3,L4,L5,L6,L7,L8,L9,L10,L11⟩:=hr;have M9:=Lib.hid L9;have M10:=Lib.hid L10;have M11:=Lib.hid L11;clear L9 L10 L11;dsimp only [netCells] at *
  have xl:=hx.lt;have x0:w.cell? ⟨bx,0,none⟩=some (.int .i64 n.mesh.g.w):=hx.get 0;have x1:w.cell? ⟨bx,1,none⟩=some (.int .i64 n.mesh.g.h):=hx.get 1;have x2:w.cell? ⟨bx,2,none⟩=some (.slice a1 n.mesh.br.length c1):=hx.get 2;have x3:w.cell? ⟨bx,3,none⟩=some (.slice a2 n.pa.length c2):=hx.get 3;have x4:w.cell? ⟨bx,4,none⟩=some (.slice a3 n.pb.length c3):=hx.get 4;have x5:w.cell? ⟨bx,5,none⟩=some (.slice a4 n.bufs.length c4):=hx.get 5;have x6:w.cell? ⟨bx,6,none⟩=some (.slice a5 n.owners.length c5):=hx.get 6;have x7:w.cell? ⟨bx,7,none⟩=some (.slice a6 n.turns.length c6):=hx.get 7;have x8:w.cell? ⟨bx,8,none⟩=some (.slice a7 n.srcs.length c7):=hx.get 8;have x9:w.cell? ⟨bx,9,none⟩=some (.slice a8 n.arrs.length c8):=hx.get 9;have x10:w.cell? ⟨bx,10,none⟩=some (.int .i64 n.time):=hx.get 10;clear hx
  have hki:=M11.out _ (rl_memI i0 i1)
  obtain⟨b8,o8,rfl,hb8,Ai,ci,p0,hle,hCi⟩:=rdB_int Rar a i0 i1
  obtain⟨z1,z2,z3,z4,z5,z6⟩:=more hb8
  obtain⟨L,hL⟩:∃ L,clsOnly (rl n.arrs a) c=L:=⟨_,rfl⟩
  have hLn:L.length≤2097152:=by rw[←hL];exact Nat.le_trans (clsOnly_len _ _) hki
  have HE:Hid (arrF n a c=trimF L):=Lib.hid (by rw[arrF,hL])
  have HL:=Lib.hid hL
  clear hL
  go_enter Tryz.func61,Tryz.ntmps61
  go_wp2_with (go_at_call 115;refine(impl_ClassOnly (rl n.arrs a) c Ai ci _ (by exact Kd.C_below hCi bel) hki).mono ?_;rintro e w1 ⟨hg1,Ba⟩;rw[HL.out] at hg1;obtain⟨v1,rfl,HO1⟩:=hg1;obtain⟨A1,d1,rfl,hk1,hC1⟩:=Kd.R_reads HO1;obtain⟨Ca,Fa,Za⟩:=bcell Ba;(try simp only[szs] at Za);have Bb:=far2;obtain⟨Cb,Fb,Zb⟩:=bcell Bb;(try simp only[szs] at Zb);try (first|obtain⟨Ya,Yb,Yc,Yd⟩:=lts4 Zb|obtain⟨Ya,Yb,Yc⟩:=lts3 Zb|obtain⟨Ya,Yb⟩:=lts2 Zb|have Ya:=lts1 Zb);have hb9:=Ba)
  go_loopw [8] (fun s wr=>∃ m:Nat,s=.slice A1 m d1∧m≤L.length∧Hid (trimTo L m=trimTo L L.length)∧Hid (kF.C wr A1 L.length L)∧Below w.heap.size w wr) (fun s _=>lenOf s)
  case atStart=>exact⟨L.length,rfl,Nat.le_refl _,Lib.hid rfl,Lib.hid hC1,bel⟩
  case round=>
    repeat (first|clear hC1|clear Ca|clear Fa|clear Za|clear Ba|clear hb9|clear Cb|clear Fb|clear Zb|clear Bb|clear Ya|clear Yb|clear Yc|clear Yd)
    obtain⟨m,rfl,hm,HT,HC,HB⟩:=hrel
    have hzr:=bw_size HB
    rcases m with _|k
    · have HX:=Lib.hid (trimF_at HT.out rfl)
      have HW:=Lib.hid (fun (W:World) (h:kF.C W A1 L.length L)=>impl_WholePackets (L.take 0) A1 d1 W (Kd.C_take h hm) (by simp) (by simp))
      clear HT
      go_wp2_with (go_at_call 120;refine(HW.out _ (by exact Kd.C_below HC.out bel)).mono ?_;rintro e w1 ⟨hg1,Ba⟩;rw[HX.out] at hg1;obtain⟨v1,rfl,HO1⟩:=hg1;obtain⟨Ca,Fa,Za⟩:=bcell Ba;(try simp only[szs] at Za);have Bb:=far2;obtain⟨Cb,Fb,Zb⟩:=bcell Bb;(try simp only[szs] at Zb);try (first|obtain⟨Ya,Yb,Yc,Yd⟩:=lts4 Zb|obtain⟨Ya,Yb,Yc⟩:=lts3 Zb|obtain⟨Ya,Yb⟩:=lts2 Zb|have Ya:=lts1 Zb);have hb9:=Ba)
      exact bodyPost_ret (v:=.tuple #[v1,.bool (wholeB (trimF L))]) (by simp[results,Tryz.results61,go_sem]) rfl ⟨⟨v1,by rw[HE.out],by rw[HE.out];exact Kd.R_lower (by exact Kd.R_below HO1 bel) (by first|omega|(simp only[szs];omega))⟩,bel⟩
    · obtain⟨b,off,rfl,hb,_,_,_,_,p4⟩:=rdFl_at HC.out k (by omega)
      have i2:(0:Int)<(k:Int)+1:=by omega
      cases ht:(rf L k).tail
      · rw[ht] at p4
        have HV:Hid (trimTo L k=trimTo L L.length):=Lib.hid ((trimTo_on ht).symm.trans HT.out)
        clear ht HT
        have hcut:∀ W:World,(Instr.slice 145 (.slice (some ⟨b,off,none⟩) (k+1) d1) none (some (.int .i64 (k:Int))) none).run Tryz.prog W=.ok (.slice (some ⟨b,off,none⟩) k d1) W:=fun W=>cut_toF _ _ _ (k:Int) (by omega) (by omega) (by omega) W
        go_wp2
        go_roundw
        case rel=>exact⟨k,rfl,by omega,HV,Lib.hid (by exact Kd.C_below HC.out bel),bel⟩
        case measure=>simp[lenOf]
      · rw[ht] at p4
        have HX:=Lib.hid (trimF_at HT.out (trimTo_tail ht))
        have hlm:(L.take (k+1)).length=k+1:=by rw[List.length_take];omega
        have HW:Hid (∀ W:World,kF.C W (some ⟨b,off,none⟩) L.length L→Calls Tryz.prog 120 #[.slice (some ⟨b,off,none⟩) (k+1) d1] W fun e w'=>GotWP W w' (L.take (k+1)) e∧Below W.heap.size W w'):=Lib.hid (fun W h=>by
          have h2:=impl_WholePackets (L.take (k+1)) (some ⟨b,off,none⟩) d1 W (Kd.C_take h hm) (by omega) (by omega)
          rw[hlm] at h2
          exact h2)
        clear HT ht hlm
        go_wp2_with (go_at_call 120;refine(HW.out _ (by exact Kd.C_below HC.out bel)).mono ?_;rintro e w1 ⟨hg1,Ba⟩;rw[HX.out] at hg1;obtain⟨v1,rfl,HO1⟩:=hg1;obtain⟨Ca,Fa,Za⟩:=bcell Ba;(try simp only[szs] at Za);have Bb:=far2;obtain⟨Cb,Fb,Zb⟩:=bcell Bb;(try simp only[szs] at Zb);try (first|obtain⟨Ya,Yb,Yc,Yd⟩:=lts4 Zb|obtain⟨Ya,Yb,Yc⟩:=lts3 Zb|obtain⟨Ya,Yb⟩:=lts2 Zb|have Ya:=lts1 Zb);have hb9:=Ba)
        exact bodyPost_ret (v:=.tuple #[v1,.bool (wholeB (trimF L))]) (by simp[results,Tryz.results61,go_sem]) rfl ⟨⟨v1,by rw[HE.out],by rw[HE.out];exact Kd.R_lower (by exact Kd.R_below HO1 bel) (by first|omega|(simp only[szs];omega))⟩,bel⟩
set_option maxHeartbeats 4000000 in
set_option maxRecDepth 100000 in
theorem spec_l22At (n:Net) (q:NA) (a c:Int) (w:World) (hr:NetR 153 w n q) (ok:netOk n=true) (nd:isNode n.mesh.g a=true) :
    Calls Tryz.prog 169 #[.agg (netCells n q),.int .i64 a,.int .i64 c] w fun e w'=>GotWP w w' (arrF n a c) e∧Below w.heap.size w w':=by
  obtain⟨i0,i1⟩:=node_arrs ok nd
  clear ok nd
  obtain⟨a1,a2,a3,a4,a5,a6,a7,a8,c1,c2,c3,c4,c5,c6,c7,c8⟩:=q;obtain⟨Rbr,Rpa,Rpb,Rbu,Row,Rtu,Rso,Rar,L1,L2,L3,L4,L5,L6,L7,L8,L9,L10,L11⟩:=hr;have M9:=Lib.hid L9;have M10:=Lib.hid L10;have M11:=Lib.hid L11;clear L9 L10 L11;dsimp only [netCells] at *
  have hki:=M11.out _ (rl_memI i0 i1)
  obtain⟨b8,o8,rfl,hb8,Ai,ci,p0,hle,hCi⟩:=rdB_int Rar a i0 i1
  obtain⟨z1,z2,z3,z4,z5,z6⟩:=more hb8
  obtain⟨L,hL⟩:∃ L,clsOnly (rl n.arrs a) c=L:=⟨_,rfl⟩
  have hLn:L.length≤2097152:=by rw[←hL];exact Nat.le_trans (clsOnly_len _ _) hki
  have HE:Hid (arrF n a c=trimF L):=Lib.hid (by rw[arrF,hL])
  have HL:=Lib.hid hL
  clear hL
  go_enter Tryz.func169,Tryz.ntmps169
  go_wp2_with (go_at_call 205;refine(spec_ClassOnly (rl n.arrs a) c Ai ci _ (by exact Kd.C_below hCi bel) hki).mono ?_;rintro e w1 ⟨hg1,Ba⟩;rw[HL.out] at hg1;obtain⟨v1,rfl,HO1⟩:=hg1;obtain⟨A1,d1,rfl,hk1,hC1⟩:=Kd.R_reads HO1;obtain⟨Ca,Fa,Za⟩:=bcell Ba;(try simp only[szs] at Za);have Bb:=far2;obtain⟨Cb,Fb,Zb⟩:=bcell Bb;(try simp only[szs] at Zb);try (first|obtain⟨Ya,Yb,Yc,Yd⟩:=lts4 Zb|obtain⟨Ya,Yb,Yc⟩:=lts3 Zb|obtain⟨Ya,Yb⟩:=lts2 Zb|have Ya:=lts1 Zb);have hb9:=Ba)
  go_loopw [8] (fun s wr=>∃ m:Nat,s=.slice A1 m d1∧m≤L.length∧Hid (trimTo L m=trimTo L L.length)∧Hid (kF.C wr A1 L.length L)∧Below w.heap.size w wr) (fun s _=>lenOf s)
  case atStart=>exact⟨L.length,rfl,Nat.le_refl _,Lib.hid rfl,Lib.hid hC1,bel⟩
  case round=>
    repeat (first|clear hC1|clear Ca|clear Fa|clear Za|clear Ba|clear hb9|clear Cb|clear Fb|clear Zb|clear Bb|clear Ya|clear Yb|clear Yc|clear Yd)
    obtain⟨m,rfl,hm,HT,HC,HB⟩:=hrel
    have hzr:=bw_size HB
    rcases m with _|k
    · have HX:=Lib.hid (trimF_at HT.out rfl)
      have HW:=Lib.hid (fun (W:World) (h:kF.C W A1 L.length L)=>spec_WholePackets (L.take 0) A1 d1 W (Kd.C_take h hm) (by simp) (by simp))
      clear HT
      go_wp2_with (go_at_call 206;refine(HW.out _ (by exact Kd.C_below HC.out bel)).mono ?_;rintro e w1 ⟨hg1,Ba⟩;rw[HX.out] at hg1;obtain⟨v1,rfl,HO1⟩:=hg1;obtain⟨Ca,Fa,Za⟩:=bcell Ba;(try simp only[szs] at Za);have Bb:=far2;obtain⟨Cb,Fb,Zb⟩:=bcell Bb;(try simp only[szs] at Zb);try (first|obtain⟨Ya,Yb,Yc,Yd⟩:=lts4 Zb|obtain⟨Ya,Yb,Yc⟩:=lts3 Zb|obtain⟨Ya,Yb⟩:=lts2 Zb|have Ya:=lts1 Zb);have hb9:=Ba)
      exact bodyPost_ret (v:=.tuple #[v1,.bool (wholeB (trimF L))]) (by simp[results,Tryz.results169,go_sem]) rfl ⟨⟨v1,by rw[HE.out],by rw[HE.out];exact Kd.R_lower (by exact Kd.R_below HO1 bel) (by first|omega|(simp only[szs];omega))⟩,bel⟩
    · obtain⟨b,off,rfl,hb,_,_,_,_,p4⟩:=rdFl_at HC.out k (by omega)
      have i2:(0:Int)<(k:Int)+1:=by omega
      cases ht:(rf L k).tail
      · rw[ht] at p4
        have HV:Hid (trimTo L k=trimTo L L.length):=Lib.hid ((trimTo_on ht).symm.trans HT.out)
        clear ht HT
        have hcut:∀ W:World,(Instr.slice 145 (.slice (some ⟨b,off,none⟩) (k+1) d1) none (some (.int .i64 (k:Int))) none).run Tryz.prog W=.ok (.slice (some ⟨b,off,none⟩) k d1) W:=fun W=>cut_toF _ _ _ (k:Int) (by omega) (by omega) (by omega) W
        go_wp2
        go_roundw
        case rel=>exact⟨k,rfl,by omega,HV,Lib.hid (by exact Kd.C_below HC.out bel),bel⟩
        case measure=>simp[lenOf]
      · rw[ht] at p4
        have HX:=Lib.hid (trimF_at HT.out (trimTo_tail ht))
        have hlm:(L.take (k+1)).length=k+1:=by rw[List.length_take];omega
        have HW:Hid (∀ W:World,kF.C W (some ⟨b,off,none⟩) L.length L→Calls Tryz.prog 206 #[.slice (some ⟨b,off,none⟩) (k+1) d1] W fun e w'=>GotWP W w' (L.take (k+1)) e∧Below W.heap.size W w'):=Lib.hid (fun W h=>by
          have h2:=spec_WholePackets (L.take (k+1)) (some ⟨b,off,none⟩) d1 W (Kd.C_take h hm) (by omega) (by omega)
          rw[hlm] at h2
          exact h2)
        clear HT ht hlm
        go_wp2_with (go_at_call 206;refine(HW.out _ (by exact Kd.C_below HC.out bel)).mono ?_;rintro e w1 ⟨hg1,Ba⟩;rw[HX.out] at hg1;obtain⟨v1,rfl,HO1⟩:=hg1;obtain⟨Ca,Fa,Za⟩:=bcell Ba;(try simp only[szs] at Za);have Bb:=far2;obtain⟨Cb,Fb,Zb⟩:=bcell Bb;(try simp only[szs] at Zb);try (first|obtain⟨Ya,Yb,Yc,Yd⟩:=lts4 Zb|obtain⟨Ya,Yb,Yc⟩:=lts3 Zb|obtain⟨Ya,Yb⟩:=lts2 Zb|have Ya:=lts1 Zb);have hb9:=Ba)
        exact bodyPost_ret (v:=.tuple #[v1,.bool (wholeB (trimF L))]) (by simp[results,Tryz.results169,go_sem]) rfl ⟨⟨v1,by rw[HE.out],by rw[HE.out];exact Kd.R_lower (by exact Kd.R_below HO1 bel) (by first|omega|(simp only[szs];omega))⟩,bel⟩
def arrIds (n:Net) (a c:Int):List Int:=if (netOk n && isNode n.mesh.g a && inside c 0 1)=true then wholeP (arrF n a c) else []
theorem wholeP_len (l:List Flit):(wholeP l).length≤l.length:=by
  unfold wholeP
  split
  · simp
  · exact(wpAt_le l l.length).2
theorem arrF_len (n:Net) (a c:Int):(arrF n a c).length≤(rl n.arrs a).length:=by
  unfold arrF trimF
  rw[List.length_take]
  have h1:=trimTo_le (clsOnly (rl n.arrs a) c) (clsOnly (rl n.arrs a) c).length
  have h2:=clsOnly_len (rl n.arrs a) c
  omega
theorem arrIds_len {e:Nat} {n:Net} {q:NA} {w:World} (hr:NetR e w n q) (a c:Int):(arrIds n a c).length≤2097152:=by
  unfold arrIds
  split
  · rename_i h
    simp only[Bool.and_eq_true] at h
    obtain⟨i0,i1⟩:=node_arrs h.1.1 h.1.2
    obtain⟨_,_,_,_,_,_,_,_,_,_,_,_,_,_,_,_,_,_,L11⟩:=hr
    have h1:=L11 _ (rl_memI i0 i1)
    have h2:=arrF_len n a c
    have h3:=wholeP_len (arrF n a c)
    omega
  · simp
def badIdxM (g:Grid) (l:List Packet):Int:=if l.all (packetOk g) then -1 else ((l.findIdx (fun p=>!packetOk g p):Nat):Int)
theorem badIdxM_yes {g:Grid} {l:List Packet} (j:Nat) (hj:j<l.length) (h:packetOk g (rp l j)=false) (hb:∀ x:Nat,x<j→packetOk g (rp l x)=true):badIdxM g l=j:=by
  unfold badIdxM
  rw[all_no j hj h]
  have:l.findIdx (fun p=>!packetOk g p)=j:=by
    rw[List.findIdx_eq hj]
    rw[rp_get l j hj] at h
    refine⟨by simp[h],fun i hi=>?_⟩
    have:=hb i hi
    rw[rp_get l i (by omega)] at this
    simp[this]
  simp[this]
theorem badIdxM_no {g:Grid} {l:List Packet} (h:∀ x:Nat,x<l.length→packetOk g (rp l x)=true):badIdxM g l=-1:=by
  unfold badIdxM
  rw[all_yes h]
  rfl
theorem badIdxM_ge (g:Grid) (l:List Packet):decide (0≤badIdxM g l)=!(l.all (packetOk g)):=by
  unfold badIdxM
  cases h:l.all (packetOk g)
  · simp
  · simp
def missTo (n:Net) (l:List Packet) (k:Nat):List Int:=((List.range k).filter (fun j:Nat=>!has (wholeP (arrF n (rp l j).dst (rp l j).cls)) (rp l j).id)).map (fun j:Nat=>(rp l j).id)
def missN (n:Net) (l:List Packet):List Int:=if (netOk n && l.all (packetOk n.mesh.g))=true then missTo n l l.length else []
theorem miss_no {n:Net} {l:List Packet} {k:Nat} (h:has (wholeP (arrF n (rp l k).dst (rp l k).cls)) (rp l k).id=true):missTo n l (k+1)=missTo n l k:=by simp[missTo,List.range_succ,List.filter_append,h]
theorem miss_yes {n:Net} {l:List Packet} {k:Nat} (h:has (wholeP (arrF n (rp l k).dst (rp l k).cls)) (rp l k).id=false):missTo n l (k+1)=missTo n l k++[(rp l k).id]:=by simp[missTo,List.range_succ,List.filter_append,h]
theorem miss_len (n:Net) (l:List Packet) (k:Nat):(missTo n l k).length≤k:=by
  unfold missTo
  rw[List.length_map]
  exact Nat.le_trans (List.length_filter_le _ _) (by simp)
theorem missN_no {n:Net} {l:List Packet} (h:(netOk n && l.all (packetOk n.mesh.g))=false):missN n l=[]:=by rw[missN,h];exact if_neg (by decide)
theorem missN_yes {n:Net} {l:List Packet} (h:(netOk n && l.all (packetOk n.mesh.g))=true):missN n l=missTo n l l.length:=by rw[missN,if_pos h]
theorem packetOk_node {g:Grid} {p:Packet} (h:packetOk g p=true):isNode g p.dst=true:=by
  simp only[packetOk,Bool.and_eq_true] at h
  exact h.1.1.1.2
theorem impl_Missing_1 (g:Grid) (q:Packet) (gm:Nat) (w:World) (h0:w.cell? ⟨gm,0,none⟩=some (.int .i64 g.w)) (h1:w.cell? ⟨gm,1,none⟩=some (.int .i64 g.h)) :
    Calls Tryz.prog 60 #[.agg #[.int .i64 q.id,.int .i64 q.src,.int .i64 q.dst,.int .i64 q.cls,.int .i64 q.len],.pointer (some ⟨gm,0,none⟩)] w fun e w'=>e=.returned (.bool (!packetOk g q))∧Below w.heap.size w w':=by
  have g0:=World.block_lt_of_cell? w _ h0
  go_enter Tryz.func60,Tryz.ntmps60
  go_wp2_with (go_at_call 43;refine(impl_PacketOk g q _).mono ?_;rintro e w1 ⟨rfl,Ba⟩;obtain⟨Ca,Fa,Za⟩:=bcell Ba;(try simp only[szs] at Za);have Bb:=far2;obtain⟨Cb,Fb,Zb⟩:=bcell Bb;(try simp only[szs] at Zb);try (first|obtain⟨Ya,Yb,Yc,Yd⟩:=lts4 Zb|obtain⟨Ya,Yb,Yc⟩:=lts3 Zb|obtain⟨Ya,Yb⟩:=lts2 Zb|have Ya:=lts1 Zb);have hb9:=Ba)
  go_ret
  exact⟨rfl,bel⟩
set_option maxHeartbeats 1000000 in
theorem slices_IndexFunc_M (g:Grid) (l:List Packet) (D:Option Addr) (n gm:Nat) (w:World) (hp:kP.C w D l.length l) (hkl:l.length≤2097152) (h0:w.cell? ⟨gm,0,none⟩=some (.int .i64 g.w)) (h1:w.cell? ⟨gm,1,none⟩=some (.int .i64 g.h)) :
    Calls Tryz.prog 119 #[.slice D l.length n,.func (.func 60) #[] #[.pointer (some ⟨gm,0,none⟩)]] w fun e w'=>e=.returned (.int .i64 (badIdxM g l))∧Below w.heap.size w w':=by
  have g0:=World.block_lt_of_cell? w _ h0
  have hcall:∀ (q:Packet) (w':World),Below w.heap.size w w'→Calls Tryz.prog 60 #[.agg #[.int .i64 q.id,.int .i64 q.src,.int .i64 q.dst,.int .i64 q.cls,.int .i64 q.len],.pointer (some ⟨gm,0,none⟩)] w' fun e w''=>e=.returned (.bool (!packetOk g q))∧Below w'.heap.size w' w'':=by
    intro q w' hb
    obtain⟨hc,_,_⟩:=bcell hb
    exact impl_Missing_1 g q gm w' ((hc _ _ g0).trans h0) ((hc _ _ g0).trans h1)
  have HCALL:=Lib.hid hcall
  clear hcall h0 h1 g0
  go_enter Tryz.func119,Tryz.ntmps119
  go_wp2
  go_loopw [8] (fun i wr=>∃ j:Nat,i=.int .i64 j∧j≤l.length∧Hid (∀ x:Nat,x<j→packetOk g (rp l x)=true)∧Below w.heap.size w wr) (fun i _=>l.length - (intOf i).toNat)
  case atStart=>exact⟨0,rfl,Nat.zero_le _,Lib.hid fun x h=>absurd h (Nat.not_lt_zero _),bel⟩
  case round=>
    obtain⟨j,rfl,hj,HA,HB⟩:=hrel
    obtain⟨hc0,hf0,hz0⟩:=bcell HB
    by_cases hlt:j<l.length
    · obtain⟨b,off,rfl,hbl,p0,p1,p2,p3,p4⟩:=rdP_at hp j hlt
      cases hk:packetOk g (rp l j)
      · have HK:=Lib.hid hk
        have e1:(!packetOk g (rp l j))=true:=by rw[hk];rfl
        have E1:=Lib.hid e1
        clear hk e1
        go_wp2_with (go_at_call 60;refine(HCALL.out (rp l j) _ (by exact bel)).mono ?_;rintro e w1 ⟨he,Ba⟩;rw[E1.out] at he;subst he;obtain⟨Ca,Fa,Za⟩:=bcell Ba;(try simp only[szs] at Za);have Bb:=far2;obtain⟨Cb,Fb,Zb⟩:=bcell Bb;(try simp only[szs] at Zb);try (first|obtain⟨Ya,Yb,Yc,Yd⟩:=lts4 Zb|obtain⟨Ya,Yb,Yc⟩:=lts3 Zb|obtain⟨Ya,Yb⟩:=lts2 Zb|have Ya:=lts1 Zb);have hb9:=Ba)
        go_ret
        exact⟨ret_int (badIdxM_yes j hlt HK.out HA.out).symm,bel⟩
      · have HK:=Lib.hid hk
        have e1:(!packetOk g (rp l j))=false:=by rw[hk];rfl
        have E1:=Lib.hid e1
        clear hk e1
        go_wp2_with (go_at_call 60;refine(HCALL.out (rp l j) _ (by exact bel)).mono ?_;rintro e w1 ⟨he,Ba⟩;rw[E1.out] at he;subst he;obtain⟨Ca,Fa,Za⟩:=bcell Ba;(try simp only[szs] at Za);have Bb:=far2;obtain⟨Cb,Fb,Zb⟩:=bcell Bb;(try simp only[szs] at Zb);try (first|obtain⟨Ya,Yb,Yc,Yd⟩:=lts4 Zb|obtain⟨Ya,Yb,Yc⟩:=lts3 Zb|obtain⟨Ya,Yb⟩:=lts2 Zb|have Ya:=lts1 Zb);have hb9:=Ba)
        go_roundw
        case rel=>exact⟨j+1,by go_num,by omega,Lib.hid (upto HA.out HK.out),bel⟩
        case measure=>simp[intOf];omega
    · go_wp2
      go_ret
      exact⟨ret_int (badIdxM_no (fun x hx=>HA.out x (by omega))).symm,bel⟩
theorem slices_ContainsFunc_M (g:Grid) (l:List Packet) (D:Option Addr) (n gm:Nat) (w:World) (hp:kP.C w D l.length l) (hkl:l.length≤2097152) (h0:w.cell? ⟨gm,0,none⟩=some (.int .i64 g.w)) (h1:w.cell? ⟨gm,1,none⟩=some (.int .i64 g.h)) :
    Calls Tryz.prog 59 #[.slice D l.length n,.func (.func 60) #[] #[.pointer (some ⟨gm,0,none⟩)]] w fun e w'=>e=.returned (.bool (!(l.all (packetOk g))))∧Below w.heap.size w w':=by
  go_enter Tryz.func59,Tryz.ntmps59
  go_wp2_with (go_at_call 119;refine(slices_IndexFunc_M g l D n gm _ hp hkl h0 h1).mono ?_;rintro e w1 ⟨rfl,Ba⟩;obtain⟨Ca,Fa,Za⟩:=bcell Ba;(try simp only[szs] at Za);have Bb:=far2;obtain⟨Cb,Fb,Zb⟩:=bcell Bb;(try simp only[szs] at Zb);try (first|obtain⟨Ya,Yb,Yc,Yd⟩:=lts4 Zb|obtain⟨Ya,Yb,Yc⟩:=lts3 Zb|obtain⟨Ya,Yb⟩:=lts2 Zb|have Ya:=lts1 Zb);have hb9:=Ba)
  go_ret
  exact⟨ret_bool (by simpa using badIdxM_ge g l),bel⟩
set_option maxHeartbeats 4000000 in
set_option maxRecDepth 100000 in
theorem impl_Missing (n:Net) (l:List Packet) (q:NA) (D:Option Addr) (d:Nat) (w:World) (hr:NetR 153 w n q) (hp:kP.C w D l.length l) (hkl:l.length≤2097152) :
    Calls Tryz.prog 20 #[.agg (netCells n q),.slice D l.length d] w fun e w'=>GotI w w' (missN n l) e∧Below w.heap.size w w':=by
  have R:=Lib.hid hr
  have P:=Lib.hid hp
  have hal:=fun a c=>arrIds_len hr a c
  obtain⟨a1,a2,a3,a4,a5,a6,a7,a8,c1,c2,c3,c4,c5,c6,c7,c8⟩:=q
  clear hr hp
  dsimp only [netCells]
  have X:=fun (W:World) hb=>Box.below (w1:=W) (Box.new w _ #[.int .i64 n.mesh.g.w,.int .i64 n.mesh.g.h,.slice a1 n.mesh.br.length c1,.slice a2 n.pa.length c2,.slice a3 n.pb.length c3,.slice a4 n.bufs.length c4,.slice a5 n.owners.length c5,.slice a6 n.turns.length c6,.slice a7 n.srcs.length c7,.slice a8 n.arrs.length c8,.int .i64 n.time] 42 rfl) hb
  have E0:=Lib.hid (R_empty' (Kd.int .i64) 3 (W0:=w.alloc (.cells #[.int .i64 n.mesh.g.w,.int .i64 n.mesh.g.h,.slice a1 n.mesh.br.length c1,.slice a2 n.pa.length c2,.slice a3 n.pb.length c3,.slice a4 n.bufs.length c4,.slice a5 n.owners.length c5,.slice a6 n.turns.length c6,.slice a7 n.srcs.length c7,.slice a8 n.arrs.length c8,.int .i64 n.time] 42)) (W:=w.alloc (.cells #[.int .i64 n.mesh.g.w,.int .i64 n.mesh.g.h,.slice a1 n.mesh.br.length c1,.slice a2 n.pa.length c2,.slice a3 n.pb.length c3,.slice a4 n.bufs.length c4,.slice a5 n.owners.length c5,.slice a6 n.turns.length c6,.slice a7 n.srcs.length c7,.slice a8 n.arrs.length c8,.int .i64 n.time] 42)) (Nat.le_refl _) (w.heap.size+1) (by simp only[szs]))
  cases hk:netOk n
  · have HE:=Lib.hid (missN_no (n:=n) (l:=l) (by rw[hk];rfl))
    go_enter Tryz.func20,Tryz.ntmps20
    go_wp2_with (go_at_call 55;refine(impl_NetOk n _ _ (R.out.below bel)).mono ?_;rintro e w1 ⟨rfl,Ba⟩;obtain⟨Ca,Fa,Za⟩:=bcell Ba;(try simp only[szs] at Za);have Bb:=far2;obtain⟨Cb,Fb,Zb⟩:=bcell Bb;(try simp only[szs] at Zb);try (first|obtain⟨Ya,Yb,Yc,Yd⟩:=lts4 Zb|obtain⟨Ya,Yb,Yc⟩:=lts3 Zb|obtain⟨Ya,Yb⟩:=lts2 Zb|have Ya:=lts1 Zb);have hb9:=Ba)
    go_ret
    exact⟨by rw[HE.out];exact⟨_,rfl,Kd.R_lower (by exact Kd.R_below E0.out bel) (by simp only[szs];omega)⟩,bel⟩
  cases ha:l.all (packetOk n.mesh.g)
  · have HE:=Lib.hid (missN_no (n:=n) (l:=l) (by rw[ha,Bool.and_false]))
    go_enter Tryz.func20,Tryz.ntmps20
    go_wp2_with (first|(go_at_call 55;refine(impl_NetOk n _ _ (R.out.below bel)).mono ?_;rintro e w1 ⟨rfl,Ba⟩;obtain⟨Ca,Fa,Za⟩:=bcell Ba;(try simp only[szs] at Za);have Bb:=far2;obtain⟨Cb,Fb,Zb⟩:=bcell Bb;(try simp only[szs] at Zb);try (first|obtain⟨Ya,Yb,Yc,Yd⟩:=lts4 Zb|obtain⟨Ya,Yb,Yc⟩:=lts3 Zb|obtain⟨Ya,Yb⟩:=lts2 Zb|have Ya:=lts1 Zb);have hb9:=Ba)|(go_at_call 59;refine(slices_ContainsFunc_M n.mesh.g l D _ _ _ (by exact Kd.C_below P.out bel) hkl ((X _ bel).get 0) ((X _ bel).get 1)).mono ?_;rintro e w2 ⟨rfl,Bb⟩;have Ba:=Bb;obtain⟨Ca,Fa,Za⟩:=bcell Ba;(try simp only[szs] at Za);have Bb:=far2;obtain⟨Cb,Fb,Zb⟩:=bcell Bb;(try simp only[szs] at Zb);try (first|obtain⟨Ya,Yb,Yc,Yd⟩:=lts4 Zb|obtain⟨Ya,Yb,Yc⟩:=lts3 Zb|obtain⟨Ya,Yb⟩:=lts2 Zb|have Ya:=lts1 Zb);have hb9:=Ba))
    go_ret
    exact⟨by rw[HE.out];exact⟨_,rfl,Kd.R_lower (by exact Kd.R_below E0.out bel) (by simp only[szs];omega)⟩,bel⟩
  have HE:=Lib.hid (missN_yes (n:=n) (l:=l) (by rw[ha,hk];rfl))
  have HK:=Lib.hid hk
  have HA:=Lib.hid (fun (k:Nat) (h:k<l.length)=>packetOk_node (all_get ha k h))
  have HL:Hid (∀ a c,isNode n.mesh.g a=true→(wholeP (arrF n a c)).length≤2097152):=Lib.hid (fun a c h=>by
    have h1:=(node_arrs hk h)
    have h2:=(R.out.h11 _ (rl_memI h1.1 h1.2))
    have h3:=wholeP_len (arrF n a c)
    have h4:=arrF_len n a c
    omega)
  have hal2:(!(l.all (packetOk n.mesh.g)))=false:=by rw[ha];rfl
  clear hal
  go_enter Tryz.func20,Tryz.ntmps20
  go_wp2_with (first|(go_at_call 55;refine(impl_NetOk n _ _ (R.out.below bel)).mono ?_;rintro e w1 ⟨rfl,Ba⟩;obtain⟨Ca,Fa,Za⟩:=bcell Ba;(try simp only[szs] at Za);have Bb:=far2;obtain⟨Cb,Fb,Zb⟩:=bcell Bb;(try simp only[szs] at Zb);try (first|obtain⟨Ya,Yb,Yc,Yd⟩:=lts4 Zb|obtain⟨Ya,Yb,Yc⟩:=lts3 Zb|obtain⟨Ya,Yb⟩:=lts2 Zb|have Ya:=lts1 Zb);have hb9:=Ba)|(go_at_call 59;refine(slices_ContainsFunc_M n.mesh.g l D _ _ _ (by exact Kd.C_below P.out bel) hkl ((X _ bel).get 0) ((X _ bel).get 1)).mono ?_;rintro e w2 ⟨rfl,Bb⟩;have Ba:=Bb;obtain⟨Ca,Fa,Za⟩:=bcell Ba;(try simp only[szs] at Za);have Bb:=far2;obtain⟨Cb,Fb,Zb⟩:=bcell Bb;(try simp only[szs] at Zb);try (first|obtain⟨Ya,Yb,Yc,Yd⟩:=lts4 Zb|obtain⟨Ya,Yb,Yc⟩:=lts3 Zb|obtain⟨Ya,Yb⟩:=lts2 Zb|have Ya:=lts1 Zb);have hb9:=Ba))
  go_loopw [5,22] (fun v i wr=>∃ k:Nat,i=.int .i64 k∧k≤l.length∧Kd.R (Kd.int .i64) 3 wr (w.alloc (.cells #[.int .i64 n.mesh.g.w,.int .i64 n.mesh.g.h,.slice a1 n.mesh.br.length c1,.slice a2 n.pa.length c2,.slice a3 n.pb.length c3,.slice a4 n.bufs.length c4,.slice a5 n.owners.length c5,.slice a6 n.turns.length c6,.slice a7 n.srcs.length c7,.slice a8 n.arrs.length c8,.int .i64 n.time] 42)).heap.size (fun _=>True) v (missTo n l k)∧Below (w.alloc (.cells #[.int .i64 n.mesh.g.w,.int .i64 n.mesh.g.h,.slice a1 n.mesh.br.length c1,.slice a2 n.pa.length c2,.slice a3 n.pb.length c3,.slice a4 n.bufs.length c4,.slice a5 n.owners.length c5,.slice a6 n.turns.length c6,.slice a7 n.srcs.length c7,.slice a8 n.arrs.length c8,.int .i64 n.time] 42)).heap.size (w.alloc (.cells #[.int .i64 n.mesh.g.w,.int .i64 n.mesh.g.h,.slice a1 n.mesh.br.length c1,.slice a2 n.pa.length c2,.slice a3 n.pb.length c3,.slice a4 n.bufs.length c4,.slice a5 n.owners.length c5,.slice a6 n.turns.length c6,.slice a7 n.srcs.length c7,.slice a8 n.arrs.length c8,.int .i64 n.time] 42)) wr) (fun _ i _=>l.length - (intOf i).toNat)
  case atStart=>exact⟨0,rfl,Nat.zero_le _,(by exact Kd.R_below E0.out bel),bel⟩
  case round=>
    obtain⟨k,rfl,hk,HO,HB⟩:=hrel
    obtain⟨Ao,co,rfl⟩:=Kd.R_slice HO
    have hlen:=miss_len n l k
    by_cases hlt:k<l.length
    · obtain⟨b,off,rfl,hbl,p0,p1,p2,p3,p4⟩:=rdP_at (Kd.C_below (Kd.C_below P.out (bw_alloc _ (bw_refl _))) HB) k hlt
      have hnd:=HA.out k hlt
      have HN:=Lib.hid hnd
      have HL2:=Lib.hid (HL.out _ (rp l k).cls hnd)
      clear hnd
      cases hh:has (wholeP (arrF n (rp l k).dst (rp l k).cls)) (rp l k).id
      · have HS:=Lib.hid (miss_yes hh)
        have HH:=Lib.hid hh
        clear hh
        go_wp2_with (first|(go_at_call 61;refine(impl_arrived n _ _ _ _ _ (R.out.below bel) (X _ bel) HK.out HN.out).mono ?_;rintro e w1 ⟨hg1,Ba⟩;obtain⟨v1,rfl,HO1⟩:=hg1;obtain⟨A1,d1,rfl,hk1,hC1⟩:=Kd.R_reads HO1;obtain⟨Ca,Fa,Za⟩:=bcell Ba;(try simp only[szs] at Za);have Bb:=far2;obtain⟨Cb,Fb,Zb⟩:=bcell Bb;(try simp only[szs] at Zb);try (first|obtain⟨Ya,Yb,Yc,Yd⟩:=lts4 Zb|obtain⟨Ya,Yb,Yc⟩:=lts3 Zb|obtain⟨Ya,Yb⟩:=lts2 Zb|have Ya:=lts1 Zb);have hb9:=Ba)|(go_at_call 62;refine(slices_Contains_int (wholeP (arrF n (rp l k).dst (rp l k).cls)) _ A1 d1 _ (by exact Kd.C_below hC1 bel) HL2.out).mono ?_;rintro e w' ⟨he,rfl⟩;rw[HH.out] at he;subst he)|(at_builtin;refine app_int (W0:=w.alloc (.cells #[.int .i64 n.mesh.g.w,.int .i64 n.mesh.g.h,.slice a1 n.mesh.br.length c1,.slice a2 n.pa.length c2,.slice a3 n.pb.length c3,.slice a4 n.bufs.length c4,.slice a5 n.owners.length c5,.slice a6 n.turns.length c6,.slice a7 n.srcs.length c7,.slice a8 n.arrs.length c8,.int .i64 n.time] 42)) rfl (.tmp 39) (.tmp 42) 26 3 rfl Tryz.underlying26 info_int _ (missTo n l k) _ rfl (by first|rfl|exact congrArg (fun z=>Value.slice (some ⟨z,0,none⟩) 1 1) (World.size_alloc _ _).symm) (by exact Kd.R_below HO bel) bel (by omega) ?_;intro v1 w1 HO1 HB1;obtain⟨Ca,Fa,Za⟩:=bcell HB1;(try simp only[szs] at Za);have Bb:=HB1;have hb9:=HB1))
        go_roundw
        case rel=>exact⟨k+1,by go_num,by omega,by rw[HS.out];exact(by exact Kd.R_below HO1 bel),bel⟩
        case measure=>simp[intOf];omega
      · have HS:=Lib.hid (miss_no hh)
        have HH:=Lib.hid hh
        clear hh
        go_wp2_with (first|(go_at_call 61;refine(impl_arrived n _ _ _ _ _ (R.out.below bel) (X _ bel) HK.out HN.out).mono ?_;rintro e w1 ⟨hg1,Ba⟩;obtain⟨v1,rfl,HO1⟩:=hg1;obtain⟨A1,d1,rfl,hk1,hC1⟩:=Kd.R_reads HO1;obtain⟨Ca,Fa,Za⟩:=bcell Ba;(try simp only[szs] at Za);have Bb:=far2;obtain⟨Cb,Fb,Zb⟩:=bcell Bb;(try simp only[szs] at Zb);try (first|obtain⟨Ya,Yb,Yc,Yd⟩:=lts4 Zb|obtain⟨Ya,Yb,Yc⟩:=lts3 Zb|obtain⟨Ya,Yb⟩:=lts2 Zb|have Ya:=lts1 Zb);have hb9:=Ba)|(go_at_call 62;refine(slices_Contains_int (wholeP (arrF n (rp l k).dst (rp l k).cls)) _ A1 d1 _ (by exact Kd.C_below hC1 bel) HL2.out).mono ?_;rintro e w' ⟨he,rfl⟩;rw[HH.out] at he;subst he))
        go_roundw
        case rel=>exact⟨k+1,by go_num,by omega,by rw[HS.out];exact(by exact Kd.R_below HO bel),bel⟩
        case measure=>simp[intOf];omega
    · obtain rfl:k=l.length:=by omega
      go_wp2
      go_ret
      exact⟨by rw[HE.out];exact⟨_,rfl,Kd.R_lower HO (by simp only[szs];omega)⟩,bel⟩
set_option maxHeartbeats 4000000 in
set_option maxRecDepth 100000 in
theorem spec_Missing (n:Net) (l:List Packet) (q:NA) (D:Option Addr) (d:Nat) (w:World) (hr:NetR 153 w n q) (hp:kP.C w D l.length l) (hkl:l.length≤2097152) :
  Calls Tryz.prog 104 #[.agg (netCells n q),.slice D l.length d] w fun e w'=>GotI w w' (missN n l) e∧Below w.heap.size w w':=by
 have R:=Lib.hid hr
 have P:=Lib.hid hp
 obtain⟨a1,a2,a3,a4,a5,a6,a7,a8,c1,c2,c3,c4,c5,c6,c7,c8⟩:=q
 clear hr hp
 dsimp only [netCells]
 have X:=fun (W:World) hb=>Box.below (w1:=W) (Box.new w _ #[.int .i64 n.mesh.g.w,.int .i64 n.mesh.g.h,.slice a1 n.mesh.br.length c1,.slice a2 n.pa.length c2,.slice a3 n.pb.length c3,.slice a4 n.bufs.length c4,.slice a5 n.owners.length c5,.slice a6 n.turns.length c6,.slice a7 n.srcs.length c7,.slice a8 n.arrs.length c8,.int .i64 n.time] 42 rfl) hb
 have E0:=Lib.hid (R_empty' (Kd.int .i64) 3 (W0:=w.alloc (.cells #[.int .i64 n.mesh.g.w,.int .i64 n.mesh.g.h,.slice a1 n.mesh.br.length c1,.slice a2 n.pa.length c2,.slice a3 n.pb.length c3,.slice a4 n.bufs.length c4,.slice a5 n.owners.length c5,.slice a6 n.turns.length c6,.slice a7 n.srcs.length c7,.slice a8 n.arrs.length c8,.int .i64 n.time] 42)) (W:=w.alloc (.cells #[.int .i64 n.mesh.g.w,.int .i64 n.mesh.g.h,.slice a1 n.mesh.br.length c1,.slice a2 n.pa.length c2,.slice a3 n.pb.length c3,.slice a4 n.bufs.length c4,.slice a5 n.owners.length c5,.slice a6 n.turns.length c6,.slice a7 n.srcs.length c7,.slice a8 n.arrs.length c8,.int .i64 n.time] 42)) (Nat.le_refl _) (w.heap.size+1) (by simp only[szs]))
 cases hk:netOk n
 ·have HE:=Lib.hid (missN_no (n:=n) (l:=l) (by rw[hk];rfl))
  go_enter Tryz.func104,Tryz.ntmps104
  go_wp2_with (go_at_call 82;refine(spec_NetOk n _ _ (R.out.below bel)).mono ?_;rintro e w1 ⟨rfl,Ba⟩;obtain⟨Ca,Fa,Za⟩:=bcell Ba;(try simp only[szs] at Za);have Bb:=far2;obtain⟨Cb,Fb,Zb⟩:=bcell Bb;(try simp only[szs] at Zb);try (first|obtain⟨Ya,Yb,Yc,Yd⟩:=lts4 Zb|obtain⟨Ya,Yb,Yc⟩:=lts3 Zb|obtain⟨Ya,Yb⟩:=lts2 Zb|have Ya:=lts1 Zb);have hb9:=Ba)
  go_loopw [5,7] (fun v i wr=>i=.int .i64 0∧v=.slice (some ⟨w.heap.size+1,0,none⟩) 0 0∧Kd.R (Kd.int .i64) 3 wr (w.alloc (.cells #[.int .i64 n.mesh.g.w,.int .i64 n.mesh.g.h,.slice a1 n.mesh.br.length c1,.slice a2 n.pa.length c2,.slice a3 n.pb.length c3,.slice a4 n.bufs.length c4,.slice a5 n.owners.length c5,.slice a6 n.turns.length c6,.slice a7 n.srcs.length c7,.slice a8 n.arrs.length c8,.int .i64 n.time] 42)).heap.size (fun _=>True) v []∧Below w.heap.size w wr) (fun _ i _=>0)
  case atStart=>exact⟨rfl,rfl,(by exact Kd.R_below E0.out bel),bel⟩
  case round=>
   obtain⟨rfl,rfl,HO,HB⟩:=hrel
   by_cases hlt:0<l.length
   ·have i0:(0:Int)<(l.length:Int):=by omega
    go_wp2_with fail
    refine wp_region_far (w) (by kernel_rfl) (by kernel_rfl) bel ?_
    have hqc:=far_cell (w)
    have hqf:=far_frozen (w)
    repeat (first|go_big_quiet_step (fail)|quiet_step (fail))
    refine wpQuiet_nil ?_
    intro wq hbq
    clear hqc hqf
    obtain⟨hcq,hfq,hzq⟩:=bcell hbq
    try simp only[szs] at hzq
    go_wp2
    go_ret
    exact⟨by rw[HE.out];exact⟨_,rfl,R_empty (W0:=w) _ _ (bw_size bel)⟩,bel⟩
   ·have i0:¬ (0:Int)<(l.length:Int):=by omega
    go_wp2
    go_ret
    exact⟨by rw[HE.out];exact⟨_,rfl,Kd.R_lower HO (by simp only[szs];omega)⟩,bel⟩
 have HK:=Lib.hid hk
 have HL:Hid (∀ a c,isNode n.mesh.g a=true→(wholeP (arrF n a c)).length≤2097152):=Lib.hid (fun a c h=>by
  have h1:=(node_arrs hk h)
  have h2:=(R.out.h11 _ (rl_memI h1.1 h1.2))
  have h3:=wholeP_len (arrF n a c)
  have h4:=arrF_len n a c
  omega)
 go_enter Tryz.func104,Tryz.ntmps104
 go_wp2_with (go_at_call 82;refine(spec_NetOk n _ _ (R.out.below bel)).mono ?_;rintro e w1 ⟨rfl,Ba⟩;obtain⟨Ca,Fa,Za⟩:=bcell Ba;(try simp only[szs] at Za);have Bb:=far2;obtain⟨Cb,Fb,Zb⟩:=bcell Bb;(try simp only[szs] at Zb);try (first|obtain⟨Ya,Yb,Yc,Yd⟩:=lts4 Zb|obtain⟨Ya,Yb,Yc⟩:=lts3 Zb|obtain⟨Ya,Yb⟩:=lts2 Zb|have Ya:=lts1 Zb);have hb9:=Ba)
 go_loopw [5,7] (fun v i wr=>∃ k:Nat,i=.int .i64 k∧k≤l.length∧Hid (∀ x:Nat,x<k→packetOk n.mesh.g (rp l x)=true)∧Kd.R (Kd.int .i64) 3 wr (w.alloc (.cells #[.int .i64 n.mesh.g.w,.int .i64 n.mesh.g.h,.slice a1 n.mesh.br.length c1,.slice a2 n.pa.length c2,.slice a3 n.pb.length c3,.slice a4 n.bufs.length c4,.slice a5 n.owners.length c5,.slice a6 n.turns.length c6,.slice a7 n.srcs.length c7,.slice a8 n.arrs.length c8,.int .i64 n.time] 42)).heap.size (fun _=>True) v (missTo n l k)∧Below (w.alloc (.cells #[.int .i64 n.mesh.g.w,.int .i64 n.mesh.g.h,.slice a1 n.mesh.br.length c1,.slice a2 n.pa.length c2,.slice a3 n.pb.length c3,.slice a4 n.bufs.length c4,.slice a5 n.owners.length c5,.slice a6 n.turns.length c6,.slice a7 n.srcs.length c7,.slice a8 n.arrs.length c8,.int .i64 n.time] 42)).heap.size (w.alloc (.cells #[.int .i64 n.mesh.g.w,.int .i64 n.mesh.g.h,.slice a1 n.mesh.br.length c1,.slice a2 n.pa.length c2,.slice a3 n.pb.length c3,.slice a4 n.bufs.length c4,.slice a5 n.owners.length c5,.slice a6 n.turns.length c6,.slice a7 n.srcs.length c7,.slice a8 n.arrs.length c8,.int .i64 n.time] 42)) wr) (fun _ i _=>l.length - (intOf i).toNat)
 case atStart=>exact⟨0,rfl,Nat.zero_le _,Lib.hid fun x h=>absurd h (Nat.not_lt_zero _),(by exact Kd.R_below E0.out bel),bel⟩
 case round=>
  obtain⟨k,rfl,hk2,HP,HO,HB⟩:=hrel
  obtain⟨Ao,co,rfl⟩:=Kd.R_slice HO
  have hlen:=miss_len n l k
  by_cases hlt:k<l.length
  ·have i0:(k:Int)<(l.length:Int):=by omega
   have k0:(0:Int)≤(k:Int):=by omega
   obtain⟨b,off,rfl,hbl,p0,p1,p2,p3,p4⟩:=rdP_at (Kd.C_below (Kd.C_below P.out (bw_alloc _ (bw_refl _))) HB) k hlt
   have hx:=X wr HB
   have xl:=hx.lt
   have box11:Box wr w.heap.size #[.int .i64 n.mesh.g.w,.int .i64 n.mesh.g.h,.slice a1 n.mesh.br.length c1,.slice a2 n.pa.length c2,.slice a3 n.pb.length c3,.slice a4 n.bufs.length c4,.slice a5 n.owners.length c5,.slice a6 n.turns.length c6,.slice a7 n.srcs.length c7,.slice a8 n.arrs.length c8,.int .i64 n.time]:=hx
   obtain⟨x0,x1,x2,x3,x4,x5,x6,x7,x8,x9,x10⟩:=all11 box11
   clear box11
   clear hx
   cases hok:packetOk n.mesh.g (rp l k)
   ·have HE:=Lib.hid (missN_no (n:=n) (l:=l) (by rw[all_no k hlt hok,Bool.and_false]))
    have HCALL:Hid (∀ W:World,Calls Tryz.prog 168 #[.agg #[.int .i64 n.mesh.g.w,.int .i64 n.mesh.g.h],.agg #[.int .i64 (rp l k).id,.int .i64 (rp l k).src,.int .i64 (rp l k).dst,.int .i64 (rp l k).cls,.int .i64 (rp l k).len]] W fun e w'=>e=.returned (.bool false)∧Below W.heap.size W w'):=Lib.hid (fun W=>Calls.says (spec_PacketOk n.mesh.g (rp l k) W) (congrArg Value.bool hok))
    clear hok
    go_wp2_with fail
    refine wp_region_far (wr) (by kernel_rfl) (by kernel_rfl) bel ?_
    have hqc:=far_cell (wr)
    have hqf:=far_frozen (wr)
    repeat (first|go_big_quiet_step ((go_at_call 168;exact far_call (HCALL.out _)))|quiet_step ((go_at_call 168;exact far_call (HCALL.out _))))
    refine wpQuiet_nil ?_
    intro wq hbq
    clear hqc hqf
    obtain⟨hcq,hfq,hzq⟩:=bcell hbq
    try simp only[szs] at hzq
    go_wp2
    go_ret
    exact⟨by rw[HE.out];exact⟨_,rfl,R_empty (W0:=w) _ _ (bw_size bel)⟩,bel⟩
   ·have hnd:=packetOk_node hok
    have HN:=Lib.hid hnd
    have HL2:=Lib.hid (HL.out _ (rp l k).cls hnd)
    have HO2:=Lib.hid hok
    have HCALL:Hid (∀ W:World,Calls Tryz.prog 168 #[.agg #[.int .i64 n.mesh.g.w,.int .i64 n.mesh.g.h],.agg #[.int .i64 (rp l k).id,.int .i64 (rp l k).src,.int .i64 (rp l k).dst,.int .i64 (rp l k).cls,.int .i64 (rp l k).len]] W fun e w'=>e=.returned (.bool true)∧Below W.heap.size W w'):=Lib.hid (fun W=>Calls.says (spec_PacketOk n.mesh.g (rp l k) W) (congrArg Value.bool hok))
    have HNX:=Lib.hid (upto HP.out hok)
    clear hok hnd
    cases hh:has (wholeP (arrF n (rp l k).dst (rp l k).cls)) (rp l k).id
    ·have HS:=Lib.hid (miss_yes hh)
     have HH:=Lib.hid hh
     clear hh
     go_wp2_with fail
     refine wp_region_far (wr) (by kernel_rfl) (by kernel_rfl) bel ?_
     have hqc:=far_cell (wr)
     have hqf:=far_frozen (wr)
     repeat (first|go_big_quiet_step ((go_at_call 168;exact far_call (HCALL.out _)))|quiet_step ((go_at_call 168;exact far_call (HCALL.out _))))
     refine wpQuiet_nil ?_
     intro wq hbq
     clear hqc hqf
     obtain⟨hcq,hfq,hzq⟩:=bcell hbq
     try simp only[szs] at hzq
     go_wp2_with fail
     go_region_held3 (fun w'=>Below (wr).heap.size (wr) w'∧∀ bq oq,bq<(wr).heap.size→w'.cell? ⟨bq,oq,none⟩=(wr).cell? ⟨bq,oq,none⟩) (first|exact far_of bel) ( first|(go_at_call 169;refine(spec_l22At n _ _ _ _ (R.out.below bel) HK.out HN.out).mono ?_;rintro e w1 ⟨hg1,Ba⟩;obtain⟨v1,rfl,HO1⟩:=hg1;obtain⟨A1,d1,rfl,hk1,hC1⟩:=Kd.R_reads HO1;obtain⟨Ca,Fa,Za⟩:=bcell Ba;(try simp only[szs] at Za);have Bb:=far2;obtain⟨Cb,Fb,Zb⟩:=bcell Bb;(try simp only[szs] at Zb);try (first|obtain⟨Ya,Yb,Yc,Yd⟩:=lts4 Zb|obtain⟨Ya,Yb,Yc⟩:=lts3 Zb|obtain⟨Ya,Yb⟩:=lts2 Zb|have Ya:=lts1 Zb);have hb9:=Ba))
     go_wp2_with (first|(go_at_call 170;refine(spec_l03Find (wholeP (arrF n (rp l k).dst (rp l k).cls)) _ A1 d1 _ (by exact Kd.C_below hC1 bel) HL2.out).mono ?_;rintro e w' ⟨he,rfl⟩;rw[HH.out] at he;subst he)|(at_builtin;refine app_int (W0:=w.alloc (.cells #[.int .i64 n.mesh.g.w,.int .i64 n.mesh.g.h,.slice a1 n.mesh.br.length c1,.slice a2 n.pa.length c2,.slice a3 n.pb.length c3,.slice a4 n.bufs.length c4,.slice a5 n.owners.length c5,.slice a6 n.turns.length c6,.slice a7 n.srcs.length c7,.slice a8 n.arrs.length c8,.int .i64 n.time] 42)) rfl (.tmp 56) (.tmp 62) 26 3 rfl Tryz.underlying26 info_int _ (missTo n l k) _ rfl (by first|rfl|exact congrArg (fun z=>Value.slice (some ⟨z,0,none⟩) 1 1) (World.size_alloc _ _).symm) (by exact Kd.R_below HO bel) bel (by omega) ?_;intro v1 w1 HO1 HB1;obtain⟨Ca,Fa,Za⟩:=bcell HB1;(try simp only[szs] at Za);have Bb:=HB1;have hb9:=HB1))
     go_roundw
     case rel=>exact⟨k+1,by go_num,by omega,HNX,by rw[HS.out];exact(by exact Kd.R_below HO1 bel),bel⟩
     case measure=>simp[intOf];omega
    ·have HS:=Lib.hid (miss_no hh)
     have HH:=Lib.hid hh
     clear hh
     go_wp2_with fail
     refine wp_region_far (wr) (by kernel_rfl) (by kernel_rfl) bel ?_
     have hqc:=far_cell (wr)
     have hqf:=far_frozen (wr)
     repeat (first|go_big_quiet_step ((go_at_call 168;exact far_call (HCALL.out _)))|quiet_step ((go_at_call 168;exact far_call (HCALL.out _))))
     refine wpQuiet_nil ?_
     intro wq hbq
     clear hqc hqf
     obtain⟨hcq,hfq,hzq⟩:=bcell hbq
     try simp only[szs] at hzq
     go_wp2_with fail
     go_region_held3 (fun w'=>Below (wr).heap.size (wr) w'∧∀ bq oq,bq<(wr).heap.size→w'.cell? ⟨bq,oq,none⟩=(wr).cell? ⟨bq,oq,none⟩) (first|exact far_of bel) ( first|(go_at_call 169;refine(spec_l22At n _ _ _ _ (R.out.below bel) HK.out HN.out).mono ?_;rintro e w1 ⟨hg1,Ba⟩;obtain⟨v1,rfl,HO1⟩:=hg1;obtain⟨A1,d1,rfl,hk1,hC1⟩:=Kd.R_reads HO1;obtain⟨Ca,Fa,Za⟩:=bcell Ba;(try simp only[szs] at Za);have Bb:=far2;obtain⟨Cb,Fb,Zb⟩:=bcell Bb;(try simp only[szs] at Zb);try (first|obtain⟨Ya,Yb,Yc,Yd⟩:=lts4 Zb|obtain⟨Ya,Yb,Yc⟩:=lts3 Zb|obtain⟨Ya,Yb⟩:=lts2 Zb|have Ya:=lts1 Zb);have hb9:=Ba))
     go_wp2_with (first|(go_at_call 170;refine(spec_l03Find (wholeP (arrF n (rp l k).dst (rp l k).cls)) _ A1 d1 _ (by exact Kd.C_below hC1 bel) HL2.out).mono ?_;rintro e w' ⟨he,rfl⟩;rw[HH.out] at he;subst he))
     go_roundw
     case rel=>exact⟨k+1,by go_num,by omega,HNX,by rw[HS.out];exact(by exact Kd.R_below HO bel),bel⟩
     case measure=>simp[intOf];omega
  ·obtain rfl:k=l.length:=by omega
   have HE:=Lib.hid (missN_yes (n:=n) (l:=l) (by rw[all_yes HP.out,hk];rfl))
   go_wp2
   go_ret
   exact⟨by rw[HE.out];exact⟨_,rfl,Kd.R_lower HO (by simp only[szs];omega)⟩,bel⟩
end Go.Proofs.YtodbglncccgdbaaGreat
namespace Go.Proofs.YtodbglncccgdbaaGreat
open NoC
def startN (m:Mesh) (pa pb:List Int) (l:List Packet):Net:=sendAllN (newN m pa pb) l
def deliverN (m:Mesh) (pa pb:List Int) (l:List Packet):Int:=
  if classesOk m pa pb=true then
    if sendAllK (newN m pa pb) l=(l.length:Int) then
      if 0≤toIdleN (startN m pa pb l) then
        if (missN (runIdleN (startN m pa pb l)) l).length=0 then toIdleN (startN m pa pb l) else -1
      else -1
    else -1
  else -1
theorem deliver_no1 {m:Mesh} {pa pb:List Int} {l:List Packet} (h:classesOk m pa pb=false):deliverN m pa pb l=-1:=by unfold deliverN;rw[h];rfl
theorem deliver_no2 {m:Mesh} {pa pb:List Int} {l:List Packet} (h:¬ sendAllK (newN m pa pb) l=(l.length:Int)):deliverN m pa pb l=-1:=by
  unfold deliverN
  rw[if_neg h]
  split <;> rfl
theorem deliver_no3 {m:Mesh} {pa pb:List Int} {l:List Packet} (h:¬ 0≤toIdleN (startN m pa pb l)):deliverN m pa pb l=-1:=by
  unfold deliverN
  rw[if_neg h]
  split
  · split <;> rfl
  · rfl
theorem deliver_no4 {m:Mesh} {pa pb:List Int} {l:List Packet} (h:¬ (missN (runIdleN (startN m pa pb l)) l).length=0):deliverN m pa pb l=-1:=by
  unfold deliverN
  rw[if_neg h]
  split
  · split
    · split <;> rfl
    · rfl
  · rfl
theorem deliver_yes {m:Mesh} {pa pb:List Int} {l:List Packet} (h1:classesOk m pa pb=true) (h2:sendAllK (newN m pa pb) l=(l.length:Int)) (h3:0≤toIdleN (startN m pa pb l)) (h4:(missN (runIdleN (startN m pa pb l)) l).length=0):deliverN m pa pb l=toIdleN (startN m pa pb l):=by
  unfold deliverN
  rw[if_pos h1,if_pos h2,if_pos h3,if_pos h4]
theorem start_nb {m:Mesh} {pa pb:List Int} {l:List Packet} (h1:m.br.length≤2097152) (h2:pa.length≤2097152) (h3:pb.length≤2097152):NB (startN m pa pb l):=sendAll_nb (newN_nb h1 h2 h3)
theorem snd_arrs (n:Net) (l:List Packet):∀ k,(sndTo n l k).arrs=n.arrs:=by
  intro k
  induction k with
  | zero=>rfl
  | succ k ih=>
    show (sndN (sndTo n l k) (rp l k)).arrs=_
    unfold sndN
    split
    · exact ih
    · exact ih
theorem start_arrs (m:Mesh) (pa pb:List Int) (l:List Packet):∀ x∈(startN m pa pb l).arrs,x.length≤1048576:=by
  have e:(startN m pa pb l).arrs=(newN m pa pb).arrs:=by
    unfold startN sendAllN
    split
    · exact snd_arrs _ _ _
    · rfl
  rw[e]
  intro x hx
  rw[(List.mem_replicate.1 hx).2]
  simp
end Go.Proofs.YtodbglncccgdbaaGreat
namespace NoC
def goesTo (n:Net) (i:Int) (g:Grant):Bool:=!(g.port == 4) && (gTo n g == i)
theorem enter_in {n:Net} (ok:netOk n=true):∀ a∈enteringN n,∃ i:Nat,a=(i:Int)∧i<n.srcs.length∧0<(rl n.srcs a).length∧10*(i:Int)+8≤eTo n a∧eTo n a≤10*(i:Int)+9∧eTo n a<(n.bufs.length:Int):=by
  intro a ha
  obtain⟨i,rfl,hi,he⟩:=(enterTo_spec n n.srcs.length).1 a ha
  simp only[enters,Bool.and_eq_true,decide_eq_true_eq] at he
  obtain⟨_,_,_,hcl⟩:=src_buf ok i hi
  obtain⟨d0,d1,d2⟩:=hcl he.1
  refine⟨i,rfl,hi,he.1,?_,?_,?_⟩ <;> unfold eTo <;> omega
theorem afterPop_len (n:Net):(afterPop n).bufs.length=n.bufs.length:=popL_len _ _
theorem afterPush_len (n:Net):(afterPush n).bufs.length=n.bufs.length:=by unfold afterPush;rw[(push_lens n _ _).1];exact afterPop_len n
theorem ri_setI {l:List Int} {k:Int} {v:Int} (k0:0≤k) (hk:k<(l.length:Int)) (j:Int) (hj:0≤j):ri (l.set k.toNat v) j=if j=k then v else ri l j:=by
  by_cases e:j=k
  · subst e
    have h:j.toNat<l.length:=by omega
    simp[ri,List.getD_eq_getElem?_getD,h]
  · have h:¬ k.toNat=j.toNat:=by omega
    simp[ri,List.getD_eq_getElem?_getD,e,h]
end NoC
namespace NoC
open Go.Proofs.YtodbglncccgdbaaGreat (totTo)
theorem pushG_arrs (n x:Net) (g:Grant):(pushG n x g).arrs=if g.port=4 then x.arrs.set g.node.toNat (rl x.arrs g.node++[mvF n g]) else x.arrs:=by unfold pushG;split <;> rfl
end NoC
namespace NoC
abbrev FS:=Option (Int × Int × Int)
def fid (f:Flit):Int × Int × Int:=(f.pk,f.dst,f.cls)
def aft (f:Flit):FS:=if f.tail=true then none else some (fid f)
def nx (s:FS) (f:Flit):Option FS:=
  match s with
  | none=>if f.head=true then some (aft f) else none
  | some t=>if f.head=false∧fid f=t then some (aft f) else none
def runF (s:FS):List Flit→Option FS
  | []=>some s
  | f::l=>match nx s f with
    | some s'=>runF s' l
    | none=>none
theorem nx_aft {s s':FS} {f:Flit} (h:nx s f=some s'):s'=aft f:=by
  unfold nx at h
  split at h <;> split at h <;> simp_all
theorem nx_head {s s':FS} {f:Flit} (h:nx s f=some s') (hh:f.head=true):s=none:=by
  cases s with
  | none=>rfl
  | some t=>
    unfold nx at h
    simp[hh] at h
theorem nx_body {s s':FS} {f:Flit} (h:nx s f=some s') (hh:f.head=false):s=some (fid f):=by
  cases s with
  | none=>
    unfold nx at h
    simp[hh] at h
  | some t=>
    unfold nx at h
    simp only[hh,true_and] at h
    split at h
    · rename_i e;rw[e]
    · cases h
theorem nx_of {s:FS} {f:Flit} (h1:f.head=true→s=none) (h2:f.head=false→s=some (fid f)):nx s f=some (aft f):=by
  cases hh:f.head
  · rw[h2 hh];simp[nx,hh]
  · rw[h1 hh];simp[nx,hh]
theorem run_cons {s t:FS} {f:Flit} {l:List Flit} (h:runF s (f::l)=some t):nx s f=some (aft f)∧runF (aft f) l=some t:=by
  unfold runF at h
  split at h
  · rename_i s' e
    have:=nx_aft e
    subst this
    exact⟨e,h⟩
  · cases h
theorem run_snoc (f:Flit):∀ (l:List Flit) (s s':FS),runF s l=some s'→runF s (l++[f])=nx s' f:=by
  intro l
  induction l with
  | nil=>
    intro s s' h
    simp only[runF,Option.some.injEq] at h
    subst h
    simp only[List.nil_append,runF]
    cases nx s f <;> rfl
  | cons g l ih=>
    intro s s' h
    obtain⟨h1,h2⟩:=run_cons h
    simp only[List.cons_append,runF,h1]
    exact ih _ _ h2
theorem run_app:∀ (l r:List Flit) (s s':FS),runF s l=some s'→runF s (l++r)=runF s' r:=by
  intro l
  induction l with
  | nil=>
    intro r s s' h
    simp only[runF,Option.some.injEq] at h
    subst h
    rfl
  | cons g l ih=>
    intro r s s' h
    obtain⟨h1,h2⟩:=run_cons h
    simp only[List.cons_append,runF,h1]
    exact ih r _ _ h2
def dn (m:Mesh) (si:Int→FS) (sa:Int→Int→FS) (a p c:Int):FS:=if p=4 then sa a c else si (10*nextNode m.g a p+2*opposite p+c)
def opens (m:Mesh) (a p:Int):Prop:=isNode m.g a=true∧0≤p∧p≤4∧(p=4∨live m (4*a+p)=true)
def lcl (s:FS) (c:Int):FS:=match s with
  | some t=>if t.2.2=c then some t else none
  | none=>none
structure WI (n:Net) (so si:Int→FS) (ss:Int→FS) (sa:Int→Int→FS):Prop where
  buf:∀ b:Int,0≤b→b<(n.bufs.length:Int)→runF (so b) (rl n.bufs b)=some (si b)
  src:∀ a:Int,0≤a→a<(n.srcs.length:Int)→runF (ss a) (rl n.srcs a)=some none
  arr:∀ a c:Int,0≤a→a<(n.arrs.length:Int)→runF none (clsOnly (rl n.arrs a) c)=some (sa a c)
  loc:∀ a c:Int,0≤a→0≤c→c≤1→si (10*a+8+c)=lcl (ss a) c
  own:∀ a p c:Int,opens n.mesh a p→0≤c→c≤1→(ownAt n a p c=-1∧dn n.mesh si sa a p c=none)∨(∃ s,dn n.mesh si sa a p c=some s∧0≤ownAt n a p c∧so (10*a+2*ownAt n a p c+c)=some s)
  uniq:∀ a p p' c:Int,opens n.mesh a p→opens n.mesh a p'→0≤c→c≤1→0≤ownAt n a p c→ownAt n a p c=ownAt n a p' c→p=p'
theorem behind_inj {m:Mesh} (hm:meshOk m=true) {a p c a' p' c':Int} (h:opens m a p) (h':opens m a' p') (p4:¬ p=4) (p4':¬ p'=4) (c0:0≤c) (c1:c≤1) (c0':0≤c') (c1':c'≤1)
    (e:10*nextNode m.g a p+2*opposite p+c=10*nextNode m.g a' p'+2*opposite p'+c'):a=a'∧p=p'∧c=c':=by
  obtain⟨n1,q0,q4,hl⟩:=h
  obtain⟨n1',q0',q4',hl'⟩:=h'
  have hl1:live m (4*a+p)=true:=hl.resolve_left p4
  have hl1':live m (4*a'+p')=true:=hl'.resolve_left p4'
  have o:=opp_eq (p:=p) q0 (by omega)
  have o':=opp_eq (p:=p') q0' (by omega)
  have i1:=isNode_iff.1 (next_live q0 (by omega) hm hl1)
  have i1':=isNode_iff.1 (next_live q0' (by omega) hm hl1')
  have e1:p=p':=by omega
  subst e1
  exact⟨next_inj q0 (by omega) n1 n1' i1.1 (by omega),rfl,by omega⟩
theorem own_move {m:Mesh} {so:Int→FS} {D D':Int→Int→Int→FS} {ow ow':Int→Int→Int→Int} {N P c0 j:Int} {f:Flit}
  (hP:opens m N P) (c00:0≤c0) (c01:c0≤1) (j0:0≤j) (j4:j≤4)
  (hr:∀ a p c,ow a p c≤4)
  (own:∀ a p c:Int,opens m a p→0≤c→c≤1→(ow a p c=-1∧D a p c=none)∨(∃ s,D a p c=some s∧0≤ow a p c∧so (10*a+2*ow a p c+c)=some s))
  (uniq:∀ a p p' c:Int,opens m a p→opens m a p'→0≤c→c≤1→0≤ow a p c→ow a p c=ow a p' c→p=p')
  (hso:nx (so (10*N+2*j+c0)) f=some (aft f))
  (hreq:(f.head=true∧ow N P c0=-1)∨(f.head=false∧ow N P c0=j))
  (hD:∀ a p c:Int,opens m a p→0≤c→c≤1→D' a p c=if a=N∧p=P∧c=c0 then aft f else D a p c)
  (how:∀ a p c:Int,opens m a p→0≤c→c≤1→ow' a p c=if a=N∧p=P∧c=c0 then (if f.tail=true then -1 else j) else ow a p c) :
  (∀ a p c:Int,opens m a p→0≤c→c≤1→(ow' a p c=-1∧D' a p c=none)∨(∃ s,D' a p c=some s∧0≤ow' a p c∧(if 10*a+2*ow' a p c+c=10*N+2*j+c0 then aft f else so (10*a+2*ow' a p c+c))=some s)) ∧
  (∀ a p p' c:Int,opens m a p→opens m a p'→0≤c→c≤1→0≤ow' a p c→ow' a p c=ow' a p' c→p=p'):=by
 have key:∀ p c:Int,opens m N p→c=c0→ow N p c=j→p=P:=by
  intro p c hp hc hj
  subst hc
  rcases hreq with ⟨hh,_⟩|⟨hh,ho⟩
  ·have h0:=nx_head hso hh
   rcases own N p c hp c00 c01 with ⟨h1,_⟩|⟨s,_,_,h3⟩
   ·omega
   ·rw[hj,h0] at h3
    cases h3
  ·exact uniq N p P c hp hP c00 c01 (by omega) (by omega)
 constructor
 ·intro a p c hp h0 h1
  rw[how a p c hp h0 h1,hD a p c hp h0 h1]
  by_cases e:a=N∧p=P∧c=c0
  ·rw[if_pos e,if_pos e]
   obtain⟨rfl,rfl,rfl⟩:=e
   cases ht:f.tail
   ·right
    refine⟨fid f,by simp[aft,ht],by simpa using j0,?_⟩
    simp[aft,ht]
   ·left
    simp[aft,ht]
  ·rw[if_neg e,if_neg e]
   rcases own a p c hp h0 h1 with h|⟨s,h2,h3,h4⟩
   ·exact .inl h
   ·right
    refine⟨s,h2,h3,?_⟩
    rw[if_neg ?_]
    ·exact h4
    ·intro e2
     have h5:=hr a p c
     have e3:a=N:=by omega
     have e4:c=c0:=by omega
     have e5:ow a p c=j:=by omega
     subst e3
     exact e ⟨rfl,key p c hp e4 e5,e4⟩
 ·intro a p p' c hp hp' h0 h1 h2 h3
  rw[how a p c hp h0 h1] at h2 h3
  rw[how a p' c hp' h0 h1] at h3
  by_cases e:a=N∧p=P∧c=c0
  ·by_cases e':a=N∧p'=P∧c=c0
   ·rw[e.2.1,e'.2.1]
   ·rw[if_pos e] at h2 h3
    rw[if_neg e'] at h3
    obtain⟨rfl,rfl,rfl⟩:=e
    cases ht:f.tail
    ·rw[ht] at h3
     simp only[Bool.false_eq_true,if_false] at h3
     exact(key p' c hp' rfl h3.symm).symm
    ·rw[ht] at h2
     simp at h2
  ·by_cases e':a=N∧p'=P∧c=c0
   ·rw[if_neg e] at h2 h3
    rw[if_pos e'] at h3
    obtain⟨rfl,rfl,rfl⟩:=e'
    cases ht:f.tail
    ·rw[ht] at h3
     simp only[Bool.false_eq_true,if_false] at h3
     exact key p c hp rfl h3
    ·rw[ht] at h3
     simp at h3
     omega
   ·rw[if_neg e] at h2 h3
    rw[if_neg e'] at h3
    exact uniq a p p' c hp hp' h0 h1 h2 h3
theorem clsOnly_snoc (l:List Flit) (f:Flit) (c:Int):clsOnly (l++[f]) c=if f.cls=c then clsOnly l c++[f] else clsOnly l c:=by
  unfold clsOnly
  rw[List.filter_append]
  by_cases e:f.cls=c
  · simp[e]
  · simp[e]
theorem ownAt_set {x:Net} {g:Grant} {v:Int} {a p c:Int} (g0:0≤gAt g) (g1:gAt g<(x.owners.length:Int)) (a0:0≤a) (p0:0≤p) (p4:p≤4) (c0:0≤c) (c1:c≤1) (q0:0≤g.port) (q4:g.port≤4) :
    ri (x.owners.set (gAt g).toNat v) (10*a+2*p+c)=if a=g.node∧p=g.port∧c=g.input % 2 then v else ownAt x a p c:=by
  rw[ri_setI g0 g1 _ (by omega)]
  unfold ownAt
  by_cases e:a=g.node∧p=g.port∧c=g.input % 2
  · rw[if_pos e,if_pos (by unfold gAt;omega)]
  · rw[if_neg e,if_neg (by unfold gAt;omega)]
def soM (so:Int→FS) (g:Grant) (f:Flit):Int→FS:=fun b=>if b=gIdx g then aft f else so b
def siM (n:Net) (si:Int→FS) (g:Grant) (f:Flit):Int→FS:=fun b=>if g.port≠4∧b=gTo n g then aft f else si b
def saM (sa:Int→Int→FS) (g:Grant) (f:Flit):Int→Int→FS:=fun a c=>if g.port=4∧a=g.node∧c=g.input % 2 then aft f else sa a c
theorem dn_M {n x:Net} {si:Int→FS} {sa:Int→Int→FS} {g:Grant} {f:Flit} (hm:meshOk x.mesh=true) (hmn:n.mesh=x.mesh) (ho:opens x.mesh g.node g.port) (i0:0≤g.input) {a p c:Int} (hp:opens x.mesh a p) (c0:0≤c) (c1:c≤1) :
    dn x.mesh (siM n si g f) (saM sa g f) a p c=if a=g.node∧p=g.port∧c=g.input % 2 then aft f else dn x.mesh si sa a p c:=by
  have eT:gTo n g=10*nextNode x.mesh.g g.node g.port+2*opposite g.port+g.input % 2:=by unfold gTo behindI;rw[hmn]
  unfold dn siM saM
  by_cases e4:p=4
  · rw[if_pos e4,if_pos e4]
    by_cases e:g.port=4∧a=g.node∧c=g.input % 2
    · rw[if_pos e,if_pos ⟨e.2.1,by omega,e.2.2⟩]
    · rw[if_neg e,if_neg (fun e2=>e ⟨by omega,e2.1,e2.2.2⟩)]
  · rw[if_neg e4,if_neg e4]
    by_cases e:a=g.node∧p=g.port∧c=g.input % 2
    · rw[if_pos e,if_pos ⟨by omega,by rw[e.1,e.2.1,e.2.2];exact eT.symm⟩]
    · rw[if_neg e,if_neg (fun e2=>e (behind_inj hm hp ho e4 e2.1 c0 c1 (by omega) (by omega) (by rw[e2.2,eT])))]
theorem WI_move {n x:Net} {so si:Int→FS} {ss:Int→FS} {sa:Int→Int→FS} (h:WI x so si ss sa) (hm:meshOk x.mesh=true) (hmn:n.mesh=x.mesh) {g:Grant} {f:Flit} {rest:List Flit}
  (ho:opens x.mesh g.node g.port) (i0:0≤g.input) (i9:g.input≤9) (Ba:gIdx g<(x.bufs.length:Int)) (ho1:gAt g<(x.owners.length:Int)) (ha:g.node<(x.arrs.length:Int))
  (ht:¬ g.port=4→0≤gTo n g∧gTo n g<(x.bufs.length:Int)) (hor:∀ k:Int,ri x.owners k≤4)
  (hf:rl x.bufs (gIdx g)=f::rest) (hmv:mvF n g=f)
  (hreq:(f.head=true∧ownAt x g.node g.port (g.input % 2)=-1)∨(f.head=false∧ownAt x g.node g.port (g.input % 2)=g.input / 2))
  (hcls:f.cls=g.input % 2):WI (pushG n (popN x g) g) (soM so g f) (siM n si g f) ss (saM sa g f):=by
 obtain⟨nd,q0,q4,hl⟩:=id ho
 have nd':=isNode_iff.1 nd
 have b0:0≤gIdx g:=by unfold gIdx;omega
 have eb:10*g.node+2*(g.input / 2)+g.input % 2=gIdx g:=by unfold gIdx;omega
 obtain⟨r1,r2⟩:=run_cons (by rw[←hf];exact h.buf (gIdx g) b0 Ba)
 have hso:nx (so (10*g.node+2*(g.input / 2)+g.input % 2)) f=some (aft f):=by rw[eb];exact r1
 have hDn:nx (dn x.mesh si sa g.node g.port (g.input % 2)) f=some (aft f):=by
  rcases h.own g.node g.port (g.input % 2) ho (by omega) (by omega) with ⟨o1,o2⟩|⟨s,o1,o2,o3⟩
  ·rw[o2]
   exact nx_of (fun _=>rfl) (fun hh=>by
    rcases hreq with ⟨hh',_⟩|⟨_,hj⟩
    ·rw[hh] at hh';cases hh'
    ·omega)
  ·rcases hreq with ⟨_,hj⟩|⟨hh,hj⟩
   ·omega
   ·have h3:=nx_body r1 hh
    rw[hj,eb,h3] at o3
    rw[o1,←o3]
    exact nx_of (fun h'=>by rw[hh] at h';cases h') (fun _=>rfl)
 have hpop:∀ b:Int,0≤b→rl (popB x.bufs g) b=if b=gIdx g then rest else rl x.bufs b:=by
  intro b hb
  unfold popB
  rw[rl_setI b0 Ba b hb,hf]
  rfl
 have hrun:∀ b:Int,0≤b→b<(x.bufs.length:Int)→runF (if b=gIdx g then aft f else so b) (rl (popB x.bufs g) b)=some (si b):=by
  intro b hb Bb
  rw[hpop b hb]
  by_cases e:b=gIdx g
  ·rw[if_pos e,if_pos e,e];exact r2
  ·rw[if_neg e,if_neg e];exact h.buf b hb Bb
 have g0:0≤gAt g:=by unfold gAt;omega
 have hown:(pushG n (popN x g) g).owners=x.owners.set (gAt g).toNat (gOwn n g):=by unfold pushG popN;split <;> rfl
 have hgo:gOwn n g=if f.tail=true then -1 else g.input / 2:=by unfold gOwn;rw[hmv]
 have hmesh:(pushG n (popN x g) g).mesh=x.mesh:=by unfold pushG popN;split <;> rfl
 have hsrc:(pushG n (popN x g) g).srcs=x.srcs:=by unfold pushG popN;split <;> rfl
 have how:∀ a p c:Int,opens x.mesh a p→0≤c→c≤1→ownAt (pushG n (popN x g) g) a p c=if a=g.node∧p=g.port∧c=g.input % 2 then (if f.tail=true then -1 else g.input / 2) else ownAt x a p c:=by
  intro a p c hp c0 c1
  have:=isNode_iff.1 hp.1
  show ri (pushG n (popN x g) g).owners _=_
  rw[hown,hgo]
  exact ownAt_set g0 ho1 this.1 hp.2.1 hp.2.2.1 c0 c1 q0 q4
 by_cases h4:g.port=4
 ·have eb1:(pushG n (popN x g) g).bufs=popB x.bufs g:=by rw[pushG_bufs,if_pos h4];rfl
  have ea1:(pushG n (popN x g) g).arrs=x.arrs.set g.node.toNat (rl x.arrs g.node++[f]):=by rw[pushG_arrs,if_pos h4,hmv];rfl
  have hdn4:dn x.mesh si sa g.node g.port (g.input % 2)=sa g.node (g.input % 2):=by unfold dn;rw[if_pos h4]
  have e1:siM n si g f=si:=by funext b;simp[siM,h4]
  have e2:saM sa g f=fun a c=>if a=g.node∧c=g.input % 2 then aft f else sa a c:=by funext a c;simp[saM,h4]
  have hD:∀ a p c:Int,opens x.mesh a p→0≤c→c≤1→dn x.mesh si (fun a c=>if a=g.node∧c=g.input % 2 then aft f else sa a c) a p c=if a=g.node∧p=g.port∧c=g.input % 2 then aft f else dn x.mesh si sa a p c:=by
   intro a p c hp c0 c1
   have:=dn_M (n:=n) (si:=si) (sa:=sa) (f:=f) hm hmn ho i0 hp c0 c1
   rwa [e1,e2] at this
  rw[e1,e2]
  unfold soM
  obtain⟨w1,w2⟩:=own_move (m:=x.mesh) ho (by omega) (by omega) (by omega) (by omega) (fun a p c=>hor _) h.own h.uniq hso hreq hD how
  refine⟨fun b hb Bb=>?_,fun a a0 a1=>?_,fun a c a0 a1=>?_,h.loc,?_,?_⟩
  ·rw[eb1] at Bb ⊢
   rw[popB_len] at Bb
   exact hrun b hb Bb
  ·rw[hsrc] at a1 ⊢
   exact h.src a a0 a1
  ·rw[ea1] at a1 ⊢
   rw[List.length_set] at a1
   rw[rl_setI nd'.1 ha a a0]
   by_cases e:a=g.node
   ·rw[if_pos e,clsOnly_snoc,hcls,←e]
    by_cases ec:g.input % 2=c
    ·rw[if_pos ec,if_pos ⟨rfl,ec.symm⟩,run_snoc f _ _ _ (h.arr a c a0 a1)]
     rw[hdn4,←e,ec] at hDn
     exact hDn
    ·rw[if_neg ec,if_neg (fun e2=>ec e2.2.symm)]
     exact h.arr a c a0 a1
   ·rw[if_neg e,if_neg (fun e2=>e e2.1)]
    exact h.arr a c a0 a1
  ·rw[hmesh]
   intro a p c hp c0 c1
   have:=w1 a p c hp c0 c1
   rwa [eb] at this
  ·rw[hmesh]
   exact w2
 ·obtain⟨t0,t1⟩:=ht h4
  have eT:gTo n g=10*nextNode x.mesh.g g.node g.port+2*opposite g.port+g.input % 2:=by unfold gTo behindI;rw[hmn]
  have eb1:(pushG n (popN x g) g).bufs=addB (popB x.bufs g) (gTo n g) f:=by rw[pushG_bufs,if_neg h4,hmv];rfl
  have ea1:(pushG n (popN x g) g).arrs=x.arrs:=by rw[pushG_arrs,if_neg h4];rfl
  have hdn4:dn x.mesh si sa g.node g.port (g.input % 2)=si (gTo n g):=by unfold dn;rw[if_neg h4,eT]
  have hopp:=opp_eq (p:=g.port) q0 (by omega)
  have e1:siM n si g f=fun b=>if b=gTo n g then aft f else si b:=by funext b;simp[siM,h4]
  have e2:saM sa g f=sa:=by funext a c;simp[saM,h4]
  have hD:∀ a p c:Int,opens x.mesh a p→0≤c→c≤1→dn x.mesh (fun b=>if b=gTo n g then aft f else si b) sa a p c=if a=g.node∧p=g.port∧c=g.input % 2 then aft f else dn x.mesh si sa a p c:=by
   intro a p c hp c0 c1
   have:=dn_M (n:=n) (si:=si) (sa:=sa) (f:=f) hm hmn ho i0 hp c0 c1
   rwa [e1,e2] at this
  rw[e1,e2]
  unfold soM
  obtain⟨w1,w2⟩:=own_move (m:=x.mesh) ho (by omega) (by omega) (by omega) (by omega) (fun a p c=>hor _) h.own h.uniq hso hreq hD how
  refine⟨fun b hb Bb=>?_,fun a a0 a1=>?_,fun a c a0 a1=>?_,fun a c a0 c0 c1=>?_,?_,?_⟩
  ·rw[eb1] at Bb ⊢
   rw[addB_len,popB_len] at Bb
   have h5:=hrun b hb Bb
   unfold addB
   rw[rl_setI t0 (by rw[popB_len];exact t1) b hb]
   by_cases e:b=gTo n g
   ·rw[if_pos e,if_pos e]
    rw[e] at h5 ⊢
    rw[run_snoc f _ _ _ h5]
    rw[hdn4] at hDn
    exact hDn
   ·rw[if_neg e,if_neg e]
    exact h5
  ·rw[hsrc] at a1 ⊢
   exact h.src a a0 a1
  ·rw[ea1] at a1 ⊢
   exact h.arr a c a0 a1
  ·rw[if_neg (by omega)]
   exact h.loc a c a0 c0 c1
  ·rw[hmesh]
   intro a p c hp c0 c1
   have:=w1 a p c hp c0 c1
   rwa [eb] at this
  ·rw[hmesh]
   exact w2
theorem gAt_ne {g h:Grant} (hg:GLt g h) (g1:0≤g.port∧g.port≤4) (h1:0≤h.port∧h.port≤4):gAt h≠gAt g:=by
  unfold gAt
  rcases hg with h2|⟨h2,h3,_⟩ <;> omega
structure Mv (n x:Net) (g:Grant) (rest:List Flit):Prop where
  ok:netOk n=true
  mem:g∈allGrants n
  mesh:x.mesh=n.mesh
  pa:x.pa=n.pa
  pb:x.pb=n.pb
  lb:x.bufs.length=n.bufs.length
  lo:x.owners.length=n.owners.length
  la:x.arrs.length=n.arrs.length
  srcs:x.srcs=n.srcs
  hor:∀ k:Int,ri x.owners k≤4
  hf:rl x.bufs (gIdx g)=mvF n g::rest
  own:ownAt x g.node g.port (g.input % 2)=ownAt n g.node g.port (g.input % 2)
structure En (n x:Net) (a:Int) (rest:List Flit):Prop where
  ok:netOk n=true
  mem:a∈enteringN n
  mesh:x.mesh=n.mesh
  pa:x.pa=n.pa
  pb:x.pb=n.pb
  lb:x.bufs.length=n.bufs.length
  ls:x.srcs.length=n.srcs.length
  a0:0≤a
  a1:a<(n.srcs.length:Int)
  hf:rl x.srcs a=rf (rl n.srcs a) 0::rest
  hn:0<(rl n.srcs a).length
  c0:0≤(rf (rl n.srcs a) 0).cls
  c1:(rf (rl n.srcs a) 0).cls≤1
  t1:eTo n a<(n.bufs.length:Int)
theorem Mv.one {n x:Net} {g:Grant} {rest:List Flit} (h:Mv n x g rest):GOne n g:=grants_one h.mem
theorem Mv.idx {n x:Net} {g:Grant} {rest:List Flit} (h:Mv n x g rest):0≤gIdx g∧gIdx g<(n.bufs.length:Int)∧0≤g.node∧g.node<(n.arrs.length:Int)∧0≤gAt g∧gAt g<(n.owners.length:Int):=by
  have h1:=(h.one.at h.ok).idx
  have h2:=h.one.p0
  have h3:=h.one.p4
  have h4:=h.one.i0
  have h5:=h.one.i9
  unfold gIdx gAt
  omega
theorem Mv.to {n x:Net} {g:Grant} {rest:List Flit} (h:Mv n x g rest) (h4:¬ g.port=4):0≤gTo n g∧gTo n g<(n.bufs.length:Int):=by
  have:=h.one.to h.ok h4
  exact⟨this.1,this.2.1⟩
theorem specG_bufs {n x:Net} {g:Grant} {rest:List Flit} (h:Mv n x g rest) (b:Int) (hb:0≤b):rl (specG n x g).bufs b=(if b=gIdx g then rest else rl x.bufs b)++(if g.port≠4∧b=gTo n g then [mvF n g] else []):=by
  obtain⟨b0,b1,_⟩:=h.idx
  have hpop:rl (popB x.bufs g) b=if b=gIdx g then rest else rl x.bufs b:=by
    unfold popB
    rw[rl_setI b0 (by rw[h.lb];exact b1) b hb,h.hf]
    rfl
  unfold specG
  rw[pushG_bufs]
  by_cases h4:g.port=4
  · rw[if_pos h4,if_neg (show ¬ (g.port≠4∧b=gTo n g) from fun e=>e.1 h4),List.append_nil]
    exact hpop
  · rw[if_neg h4]
    obtain⟨t0,t1⟩:=h.to h4
    unfold addB
    show rl ((popB x.bufs g).set _ (rl (popB x.bufs g) _++[_])) _=_
    rw[rl_setI t0 (by rw[popB_len,h.lb];exact t1) b hb]
    by_cases e:b=gTo n g
    · rw[if_pos e,if_pos (show g.port≠4∧b=gTo n g from ⟨h4,e⟩),←e,hpop]
    · rw[if_neg e,if_neg (show ¬ (g.port≠4∧b=gTo n g) from fun e2=>e e2.2),List.append_nil]
      exact hpop
theorem specG_rest (n x:Net) (g:Grant):(specG n x g).mesh=x.mesh∧(specG n x g).pa=x.pa∧(specG n x g).pb=x.pb∧(specG n x g).srcs=x.srcs∧(specG n x g).bufs.length=x.bufs.length∧(specG n x g).arrs.length=x.arrs.length∧(specG n x g).owners=x.owners.set (gAt g).toNat (gOwn n g):=by
  unfold specG
  refine⟨?_,?_,?_,?_,?_,?_,?_⟩
  · unfold pushG popN;split <;> rfl
  · unfold pushG popN;split <;> rfl
  · unfold pushG popN;split <;> rfl
  · unfold pushG popN;split <;> rfl
  · rw[pushG_len];exact popB_len _ _
  · rw[pushG_arrs];split
    · rw[List.length_set];rfl
    · rfl
  · unfold pushG popN;split <;> rfl
theorem enterB_bufs {n x:Net} {a:Int} {rest:List Flit} (h:En n x a rest) (b:Int) (hb:0≤b):rl (enterB n x a).bufs b=rl x.bufs b++(if b=eTo n a then [rf (rl n.srcs a) 0] else []):=by
  have t0:0≤eTo n a:=by have:=h.a0;have:=h.c0;unfold eTo;omega
  show rl (x.bufs.set _ (rl x.bufs _++[_])) _=_
  rw[rl_setI t0 (by rw[h.lb];exact h.t1) b hb]
  by_cases e:b=eTo n a
  · rw[if_pos e,if_pos e,e]
  · rw[if_neg e,if_neg e,List.append_nil]
theorem enterB_src {n x:Net} {a:Int} {rest:List Flit} (h:En n x a rest) (y:Int) (hy:0≤y):rl (enterB n x a).srcs y=if y=a then rest else rl x.srcs y:=by
  show rl (x.srcs.set a.toNat ((rl x.srcs a).drop 1)) y=_
  rw[rl_setI h.a0 (by rw[h.ls];exact h.a1) y hy,h.hf]
  rfl
theorem grants_go {n:Net} (ok:netOk n=true) (P:List Grant→Net→Prop)
    (hs:∀ gs g x rest,(∃ r,allGrants n=gs++g::r)→Mv n x g rest→P gs x→P (gs++[g]) (specG n x g)) :
    ∀ (gs pre:List Grant) (x:Net),allGrants n=pre++gs→P pre x→x.mesh=n.mesh→x.pa=n.pa→x.pb=n.pb→x.bufs.length=n.bufs.length→x.owners.length=n.owners.length→x.arrs.length=n.arrs.length→x.srcs=n.srcs→(∀ k:Int,ri x.owners k≤4) →
    gs.Pairwise GLt→(gs.map gIdx).Nodup→(∀ g∈gs,(∃ rest,rl x.bufs (gIdx g)=mvF n g::rest)∧ownAt x g.node g.port (g.input % 2)=ownAt n g.node g.port (g.input % 2))→P (allGrants n) (specL n x gs):=by
  intro gs
  induction gs with
  | nil=>
    intro pre x e h _ _ _ _ _ _ _ _ _ _ _
    rw[List.append_nil] at e
    rw[e]
    exact h
  | cons g gs ih=>
    intro pre x e h hm hpa hpb hb ho ha hsr hor hp hn hx
    obtain⟨⟨rest,hf⟩,hown⟩:=hx g (by simp)
    have M:Mv n x g rest:=⟨ok,by rw[e];simp,hm,hpa,hpb,hb,ho,ha,hsr,hor,hf,hown⟩
    obtain⟨r1,r2,r3,r4,r5,r6,r7⟩:=specG_rest n x g
    obtain⟨b0,b1,n0,n1,g0,g1⟩:=M.idx
    have hp':=List.pairwise_cons.1 hp
    simp only[List.map_cons,List.nodup_cons] at hn
    have one:=M.one
    have hgo:gOwn n g≤4:=by have:=one.i9;unfold gOwn;split <;> omega
    have go:gAt g<(x.owners.length:Int):=by rw[ho];exact g1
    show P (allGrants n) (specL n (specG n x g) gs)
    refine ih (pre++[g]) _ (by rw[e];simp) (hs pre g x rest ⟨gs,e⟩ M h) (r1.trans hm) (r2.trans hpa) (r3.trans hpb) (r5.trans hb) (by rw[r7,List.length_set];exact ho) (r6.trans ha) (r4.trans hsr) (fun k=>?_) hp'.2 hn.2 (fun y hy=>?_)
    · rw[r7]
      by_cases hk:0≤k
      · rw[ri_setI g0 go k hk]
        split
        · exact hgo
        · exact hor k
      · have e:∀ l:List Int,ri l k=ri l 0:=fun l=>by unfold ri;rw[show k.toNat=(0:Int).toNat by omega]
        rw[e,ri_setI g0 go 0 (by omega)]
        split
        · exact hgo
        · exact hor 0
    · have y1:GOne n y:=grants_one (by rw[e];simp[hy])
      obtain⟨⟨r2,hr2⟩,ho2⟩:=hx y (by simp[hy])
      have hne:gIdx y≠gIdx g:=fun e=>hn.1 (by rw[←e];exact List.mem_map_of_mem hy)
      have y0:0≤gIdx y:=by have:=(y1.at ok).idx;unfold gIdx;exact this.2.2.1
      constructor
      · rw[specG_bufs M _ y0,if_neg hne,hr2]
        exact⟨_,List.cons_append ..⟩
      · rw[←ho2]
        unfold ownAt
        rw[r7,ri_setI g0 go _ (by have:=isNode_iff.1 y1.nd;have:=y1.p0;have:=y1.i0;omega),if_neg]
        exact gAt_ne (hp'.1 y hy) ⟨one.p0,one.p4⟩ ⟨y1.p0,y1.p4⟩
theorem grants_ind {n:Net} (ok:netOk n=true) (P:List Grant→Net→Prop) (h0:P [] n)
    (hs:∀ gs g x rest,(∃ r,allGrants n=gs++g::r)→Mv n x g rest→P gs x→P (gs++[g]) (specG n x g)):P (allGrants n) (afterPush n):=by
  have hok:=grants_GsOk ok
  obtain⟨_,_,_,_,_,_,_,_,hw,_⟩:=netOk_parts ok
  have h1:=grants_go ok P hs (allGrants n) [] n rfl h0 rfl rfl rfl rfl rfl rfl rfl (fun k=>by
    by_cases hk:k.toNat<n.owners.length
    · have:=inside_iff.1 (hw k.toNat hk)
      have e:ri n.owners k=ri n.owners ((k.toNat:Nat):Int):=by unfold ri;rw[Int.toNat_natCast]
      rw[e];exact this.2
    · have e:ri n.owners k=0:=by simp[ri,List.getD_eq_getElem?_getD,hk]
      rw[e];omega) (grants_pw n) hok.nodup (fun g hg=>⟨by
        have:=hok.full g hg
        cases hl:rl n.bufs (gIdx g) with
        | nil=>exact absurd hl this
        | cons f r=>exact⟨r,by unfold mvF;rw[hl];rfl⟩,rfl⟩)
  rw[specStep ok] at h1
  exact h1
theorem enters_go {n:Net} (ok:netOk n=true) (Q:List Int→Net→Prop)
    (hs:∀ ks a x rest,(∃ r,enteringN n=ks++a::r)→En n x a rest→Q ks x→Q (ks++[a]) (enterB n x a)) :
    ∀ (ks pre:List Int) (x:Net),enteringN n=pre++ks→Q pre x→x.mesh=n.mesh→x.pa=n.pa→x.pb=n.pb→x.bufs.length=n.bufs.length→x.srcs.length=n.srcs.length→ks.Pairwise (·<·) →
    (∀ a∈ks,∃ rest,rl x.srcs a=rf (rl n.srcs a) 0::rest)→Q (enteringN n) (enterL n x ks):=by
  intro ks
  induction ks with
  | nil=>
    intro pre x e h _ _ _ _ _ _ _
    rw[List.append_nil] at e
    rw[e]
    exact h
  | cons a ks ih=>
    intro pre x e h hm hpa hpb hb hsl hp hx
    obtain⟨rest,hf⟩:=hx a (by simp)
    obtain⟨i,hai,hi,hl,e1,e2,e3⟩:=enter_in ok a (by rw[e];simp)
    have hc:0≤(rf (rl n.srcs a) 0).cls∧(rf (rl n.srcs a) 0).cls≤1:=by unfold eTo at e1 e2;omega
    have E:En n x a rest:=⟨ok,by rw[e];simp,hm,hpa,hpb,hb,hsl,by omega,by omega,hf,hl,hc.1,hc.2,e3⟩
    rw[List.pairwise_cons] at hp
    show Q (enteringN n) (enterL n (enterB n x a) ks)
    refine ih (pre++[a]) _ (by rw[e];simp) (hs pre a x rest ⟨ks,e⟩ E h) hm hpa hpb (by show (x.bufs.set _ _).length=_;rw[List.length_set];exact hb) (by show (x.srcs.set _ _).length=_;rw[List.length_set];exact hsl) hp.2 (fun y hy=>?_)
    obtain⟨j,hyj,_⟩:=enter_in ok y (by rw[e];simp[hy])
    obtain⟨r,hr⟩:=hx y (by simp[hy])
    have hlt:=hp.1 y hy
    rw[enterB_src E y (by omega),if_neg (by omega)]
    exact⟨r,hr⟩
theorem enters_ind {n:Net} (ok:netOk n=true) (Q:List Int→Net→Prop) (h0:Q [] (afterPush n))
    (hs:∀ ks a x rest,(∃ r,enteringN n=ks++a::r)→En n x a rest→Q ks x→Q (ks++[a]) (enterB n x a)):Q (enteringN n) (enterL n (afterPush n) (enteringN n)):=by
  have h2:=pushL_same n (allGrants n) (afterPop n)
  have hsr:(afterPush n).srcs=n.srcs:=pushL_srcs (allGrants n) (afterPop n)
  refine enters_go ok Q hs (enteringN n) [] _ rfl h0 h2.2.1 h2.2.2.1 h2.2.2.2 (afterPush_len n) (by rw[hsr]) (enterTo_spec n n.srcs.length).2 (fun a ha=>?_)
  obtain⟨i,rfl,hi,hl,_⟩:=enter_in ok a ha
  rw[hsr]
  cases hl2:rl n.srcs (i:Int) with
  | nil=>rw[hl2] at hl;simp at hl
  | cons f r=>exact⟨r,rfl⟩
theorem step_ind {n:Net} (ok:netOk n=true) (P:Net→Prop) (h0:P n) (hg:∀ g x rest,Mv n x g rest→P x→P (specG n x g)) (he:∀ a x rest,En n x a rest→P x→P (enterB n x a)) (ht:∀ (x:Net) (t:Int),P x→P { x with time:=t }):P (stepN n):=by
  have h1:P (afterPush n):=grants_ind ok (fun _ x=>P x) h0 (fun gs g x rest _ M h=>hg g x rest M h)
  have h2:P (enterL n (afterPush n) (enteringN n)):=enters_ind ok (fun _ x=>P x) h1 (fun ks a x rest _ E h=>he a x rest E h)
  exact ht _ _ h2
theorem grid_cases {g:Grid} (h:gridOk g=true):∃ w h:Nat,w<4∧h<4∧g=⟨(w:Int)+1,(h:Int)+1⟩:=by
  simp only[gridOk,inside,Bool.and_eq_true,decide_eq_true_eq] at h
  obtain⟨⟨w1,w4⟩,h1,h4⟩:=h
  obtain⟨w,h⟩:=g
  dsimp only at w1 w4 h1 h4
  refine⟨(w - 1).toNat,(h - 1).toNat,by omega,by omega,?_⟩
  rw[Int.toNat_of_nonneg (by omega),Int.toNat_of_nonneg (by omega)]
  congr 1 <;> omega
theorem isNode_ok {g:Grid} {a:Int} (ha:isNode g a=true):gridOk g=true∧0≤a∧a<16:=by
  have h1:=isNode_iff.1 ha
  have h2:=count_le g
  refine⟨?_,by omega,by omega⟩
  cases h:gridOk g
  · unfold nodeCount at h1
    rw[h] at h1
    simp at h1
    omega
  · rfl
def geoB (g:Grid) (a p:Int):Bool:=!(isNode g a && decide (0≤nextNode g a p)) || (isNode g (nextNode g a p) && decide (nextNode g (nextNode g a p) (opposite p)=a) && decide (opposite (opposite p)=p) && decide (nextNode g a p≠a) && decide (0≤opposite p∧opposite p≤3))
set_option maxRecDepth 100000 in
theorem geo_all:(allI 4 fun w=>allI 4 fun h=>allI 16 fun a=>allI 4 fun p=>geoB ⟨(w:Int)+1,(h:Int)+1⟩ (a:Int) (p:Int))=true:=by decide +kernel
theorem geo {g:Grid} {a p:Int} (p0:0≤p) (p3:p≤3) (ha:isNode g a=true) (h0:0≤nextNode g a p):isNode g (nextNode g a p)=true∧nextNode g (nextNode g a p) (opposite p)=a∧opposite (opposite p)=p∧nextNode g a p≠a∧0≤opposite p∧opposite p≤3:=by
  obtain⟨hg,a0,a1⟩:=isNode_ok ha
  obtain⟨w,h,hw,hh,rfl⟩:=grid_cases hg
  have:=allI_iff.1 (allI_iff.1 (allI_iff.1 (allI_iff.1 geo_all w hw) h hh) a.toNat (by omega)) p.toNat (by omega)
  rw[Int.toNat_of_nonneg a0,Int.toNat_of_nonneg p0] at this
  unfold geoB at this
  rw[ha,decide_eq_true h0] at this
  simpa [and_assoc] using this
end NoC
