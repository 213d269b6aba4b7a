/- Lemmas for laws of this seat, for all inputs: DvS LoadsA LoadsB LoadsC LoadsD Df Open OpenP OpenY. -/
import Derived.Test.YtodbglncccgdbaaGreatQ15
import Derived.Test.YtodbglncccgdbaaGreatQ18
import Derived.Test.YtodbglncccgdbaaGreatQ19
import Derived.Test.YtodbglncccgdbaaGreatQ21
import Derived.Test.YtodbglncccgdbaaGreatQ5
import Derived.Test.YtodbglncccgdbaaGreatQ8
import Derived.Test.YtodbglncccgdbaaGreatQ3
import Derived.Test.YtodbglncccgdbaaGreatQ1
import Derived.BigRegion
import Derived.RegionTactic
import Derived.ProofKit
import Derived.OpenShut
import Derived.SizedLaws
import Derived.WideShapes
import Derived.ChangeSame
import Derived.Test.YtodbglncccgdbaaGreatQ6
set_option linter.unusedVariables false
set_option linter.unusedSimpArgs false
namespace Go.Proofs.YtodbglncccgdbaaGreat
open Go.RowKit Go.Proofs.YtodbglncccgdbaaGreatW.PrintWords
open NoC
def startV (m:Mesh) (pa pb:List Int) (l:List Packet):Net:=if classesOk m pa pb=true then startN m pa pb l else zeroN
def startB (m:Mesh) (pa pb:List Int) (l:List Packet):Bool:=classesOk m pa pb && decide (sendAllK (newN m pa pb) l=(l.length:Int))
theorem startV_nb {m:Mesh} {pa pb:List Int} {l:List Packet} (h1:m.br.length≤2097152) (h2:pa.length≤2097152) (h3:pb.length≤2097152):NB (startV m pa pb l):=by
  unfold startV
  split
  · exact start_nb h1 h2 h3
  · exact zeroN_nb
theorem startV_arrs (m:Mesh) (pa pb:List Int) (l:List Packet):∀ x∈(startV m pa pb l).arrs,x.length≤1048576:=by
  unfold startV
  split
  · exact start_arrs m pa pb l
  · intro x hx
    simp[zeroN] at hx
theorem startB_no {m:Mesh} {pa pb:List Int} {l:List Packet} (h:startB m pa pb l=false):deliverN m pa pb l=-1:=by
  cases hk:classesOk m pa pb
  · exact deliver_no1 hk
  · refine deliver_no2 (fun e=>?_)
    unfold startB at h
    rw[hk,decide_eq_true e] at h
    cases h
theorem startB_yes {m:Mesh} {pa pb:List Int} {l:List Packet} (h:startB m pa pb l=true):classesOk m pa pb=true∧sendAllK (newN m pa pb) l=(l.length:Int)∧startV m pa pb l=startN m pa pb l:=by
  unfold startB at h
  simp only[Bool.and_eq_true,decide_eq_true_eq] at h
  exact⟨h.1,h.2,by unfold startV;rw[if_pos h.1]⟩
theorem deliver_is {m:Mesh} {pa pb:List Int} {l:List Packet} (h:0≤deliverN m pa pb l):startV m pa pb l=startN m pa pb l∧deliverN m pa pb l=toIdleN (startN m pa pb l):=by
  obtain⟨h1,h2⟩:=deliver_pos h
  refine⟨by unfold startV;rw[if_pos h1],?_⟩
  by_cases h3:0≤toIdleN (startN m pa pb l)
  · by_cases h4:(missN (runIdleN (startN m pa pb l)) l).length=0
    · exact deliver_yes h1 h2 h3 h4
    · have:=deliver_no4 (m:=m) (pa:=pa) (pb:=pb) (l:=l) h4
      omega
  · have:=deliver_no3 (m:=m) (pa:=pa) (pb:=pb) (l:=l) h3
    omega
theorem bn_put {w:World} {b c:Nat} {n:Net} {q:NA} (h:BN w c) (hne:c≠b):BN (putN w b n q) c:=by
  obtain⟨cs,h1,h2⟩:=h
  exact⟨cs,by rw[blk_put hne];exact h1,h2⟩
set_option maxHeartbeats 16000000 in
set_option maxRecDepth 100000 in
theorem spec_l26Start (m:Mesh) (pa pb:List Int) (l:List Packet) (A B C D:Option Addr) (c d k n:Nat) (w:World) (hr:Kd.C (Kd.int .i64) w A m.br.length m.br) (hn:m.br.length≤2097152) (ha:Kd.C (Kd.int .i64) w B pa.length pa) (hka:pa.length≤2097152) (hb:Kd.C (Kd.int .i64) w C pb.length pb) (hkb:pb.length≤2097152) (hp:kP.C w D l.length l) (hkl:l.length≤2097152) :
    Calls Tryz.prog 47 #[.agg #[.int .i64 m.g.w,.int .i64 m.g.h,.slice A m.br.length c],.agg #[.slice B pa.length d,.slice C pb.length k],.slice D l.length n] w fun e w'=>GotNV w w' (startV m pa pb l) (.bool (startB m pa pb l)) e∧Below w.heap.size w w':=by
  have HR:=Lib.hid hr
  have HA:=Lib.hid ha
  have HB:=Lib.hid hb
  have HP:=Lib.hid hp
  clear hr ha hb hp
  obtain⟨wa,ewa⟩:∃ z,z=((w.alloc (.cells #[.int .i64 m.g.w,.int .i64 m.g.h,.slice A m.br.length c] 28)).alloc (.cells #[.slice B pa.length d,.slice C pb.length k] 32)).alloc (.cells #[.int .i64 0,.int .i64 0,.slice none 0 0,.slice none 0 0,.slice none 0 0,.slice none 0 0,.slice none 0 0,.slice none 0 0,.slice none 0 0,.slice none 0 0,.int .i64 0] 42):=⟨_,rfl⟩
  have hwa:Below w.heap.size w wa:=by rw[ewa];exact bw_alloc _ (bw_alloc _ (bw_alloc _ (bw_refl w)))
  have zwa:wa.heap.size=w.heap.size+3:=by rw[ewa];simp only[szs]
  have HZ:Hid (BN wa (w.heap.size+2)):=Lib.hid (by rw[ewa];have h:=BT.new ((w.alloc (.cells #[.int .i64 m.g.w,.int .i64 m.g.h,.slice A m.br.length c] 28)).alloc (.cells #[.slice B pa.length d,.slice C pb.length k] 32)) zeroN ZQ;simp only[szs] at h;exact h.bn)
  go_enter Tryz.func47,Tryz.ntmps47
  go_wp2_with fail
  rw[←ewa]
  clear ewa
  refine(spec_NetNew m pa pb A B C c d k _ (Kd.C_below HR.out hwa) hn (Kd.C_below HA.out hwa) hka (Kd.C_below HB.out hwa) hkb).mono ?_
  rintro e w2 ⟨hg,Bb⟩
  obtain⟨uq,uu4,uu7,uu8,rfl,HNu⟩:=hg
  obtain⟨N0,hN0⟩:∃ z,netNewN m pa pb=z:=⟨_,rfl⟩
  have HNB0:Hid (NB N0):=Lib.hid (by rw[←hN0];exact netNew_nb hn hka hkb)
  rw[hN0] at HNu
  rw[hN0]
  have HE0:=Lib.hid hN0
  clear hN0
  obtain⟨u1,u2,u3,u4,u5,u6,u7,u8,v1,v2,v3,v4,v5,v6,v7,v8⟩:=uq
  dsimp only [netCells]
  have hw3:Below w2.heap.size w2 (w2.alloc (.cells #[.int .i64 N0.mesh.g.w,.int .i64 N0.mesh.g.h,.slice u1 N0.mesh.br.length v1,.slice u2 N0.pa.length v2,.slice u3 N0.pb.length v3,.slice u4 N0.bufs.length v4,.slice u5 N0.owners.length v5,.slice u6 N0.turns.length v6,.slice u7 N0.srcs.length v7,.slice u8 N0.arrs.length v8,.int .i64 N0.time] 42)):=bw_alloc _ (bw_refl w2)
  have HBT3:Hid (BT (w2.alloc (.cells #[.int .i64 N0.mesh.g.w,.int .i64 N0.mesh.g.h,.slice u1 N0.mesh.br.length v1,.slice u2 N0.pa.length v2,.slice u3 N0.pb.length v3,.slice u4 N0.bufs.length v4,.slice u5 N0.owners.length v5,.slice u6 N0.turns.length v6,.slice u7 N0.srcs.length v7,.slice u8 N0.arrs.length v8,.int .i64 N0.time] 42)) w2.heap.size N0 ⟨u1,u2,u3,u4,u5,u6,u7,u8,v1,v2,v3,v4,v5,v6,v7,v8⟩):=Lib.hid (blk_new w2 _)
  have HN3:Hid (NX (w2.alloc (.cells #[.int .i64 N0.mesh.g.w,.int .i64 N0.mesh.g.h,.slice u1 N0.mesh.br.length v1,.slice u2 N0.pa.length v2,.slice u3 N0.pb.length v3,.slice u4 N0.bufs.length v4,.slice u5 N0.owners.length v5,.slice u6 N0.turns.length v6,.slice u7 N0.srcs.length v7,.slice u8 N0.arrs.length v8,.int .i64 N0.time] 42)) wa.heap.size N0 ⟨u1,u2,u3,u4,u5,u6,u7,u8,v1,v2,v3,v4,v5,v6,v7,v8⟩ uu4 uu7 uu8):=Lib.hid (HNu.below hw3)
  have HZ3:Hid (BN (w2.alloc (.cells #[.int .i64 N0.mesh.g.w,.int .i64 N0.mesh.g.h,.slice u1 N0.mesh.br.length v1,.slice u2 N0.pa.length v2,.slice u3 N0.pb.length v3,.slice u4 N0.bufs.length v4,.slice u5 N0.owners.length v5,.slice u6 N0.turns.length v6,.slice u7 N0.srcs.length v7,.slice u8 N0.arrs.length v8,.int .i64 N0.time] 42)) (w.heap.size+2)):=Lib.hid ((HZ.out.below Bb).below hw3)
  have HW3:Hid (Below w.heap.size w (w2.alloc (.cells #[.int .i64 N0.mesh.g.w,.int .i64 N0.mesh.g.h,.slice u1 N0.mesh.br.length v1,.slice u2 N0.pa.length v2,.slice u3 N0.pb.length v3,.slice u4 N0.bufs.length v4,.slice u5 N0.owners.length v5,.slice u6 N0.turns.length v6,.slice u7 N0.srcs.length v7,.slice u8 N0.arrs.length v8,.int .i64 N0.time] 42))):=Lib.hid (bw_then (bw_then hwa Bb) hw3)
  have z2:=bw_size Bb
  clear HNu Bb hw3 HZ hwa
  cases hk:classesOk m pa pb
  · have HV:Hid (startV m pa pb l=N0):=Lib.hid (by rw[←HE0.out];unfold startV netNewN;rw[hk];rfl)
    have HVB:Hid (startB m pa pb l=false):=Lib.hid (by unfold startB;rw[hk];rfl)
    have box11:Box (w2.alloc (.cells #[.int .i64 N0.mesh.g.w,.int .i64 N0.mesh.g.h,.slice u1 N0.mesh.br.length v1,.slice u2 N0.pa.length v2,.slice u3 N0.pb.length v3,.slice u4 N0.bufs.length v4,.slice u5 N0.owners.length v5,.slice u6 N0.turns.length v6,.slice u7 N0.srcs.length v7,.slice u8 N0.arrs.length v8,.int .i64 N0.time] 42)) w2.heap.size #[.int .i64 N0.mesh.g.w,.int .i64 N0.mesh.g.h,.slice u1 N0.mesh.br.length v1,.slice u2 N0.pa.length v2,.slice u3 N0.pb.length v3,.slice u4 N0.bufs.length v4,.slice u5 N0.owners.length v5,.slice u6 N0.turns.length v6,.slice u7 N0.srcs.length v7,.slice u8 N0.arrs.length v8,.int .i64 N0.time]:=HBT3.out.box
    obtain⟨xa0,xa1,xa2,xa3,xa4,xa5,xa6,xa7,xa8,xa9,xa10⟩:=all11 box11
    clear box11
    have xal:=HBT3.out.lt
    obtain⟨⟨ry0,rv0⟩,⟨ry1,rv1⟩,⟨ry2,rv2⟩,⟨ry3,rv3⟩,⟨ry4,rv4⟩,⟨ry5,rv5⟩,⟨ry6,rv6⟩,⟨ry7,rv7⟩,⟨ry8,rv8⟩,⟨ry9,rv9⟩,⟨ry10,rv10⟩,rz0,rz1,rz2,rz3,rz4,rz5,rz6,rz7,rz8,rz9,rz10⟩:=allBN HZ3.out
    have zl:=HZ3.out.lt
    go_wp2
    obtain⟨W9,e9⟩:∃ z,z=putN (w2.alloc (.cells #[.int .i64 N0.mesh.g.w,.int .i64 N0.mesh.g.h,.slice u1 N0.mesh.br.length v1,.slice u2 N0.pa.length v2,.slice u3 N0.pb.length v3,.slice u4 N0.bufs.length v4,.slice u5 N0.owners.length v5,.slice u6 N0.turns.length v6,.slice u7 N0.srcs.length v7,.slice u8 N0.arrs.length v8,.int .i64 N0.time] 42)) (w.heap.size+2) N0 ⟨u1,u2,u3,u4,u5,u6,u7,u8,v1,v2,v3,v4,v5,v6,v7,v8⟩:=⟨_,rfl⟩
    have HB9:Hid (BT W9 (w.heap.size+2) N0 ⟨u1,u2,u3,u4,u5,u6,u7,u8,v1,v2,v3,v4,v5,v6,v7,v8⟩):=Lib.hid (by rw[e9];exact putN_BT HZ3.out)
    have HN9:=Lib.hid (show NX W9 _ N0 ⟨u1,u2,u3,u4,u5,u6,u7,u8,v1,v2,v3,v4,v5,v6,v7,v8⟩ uu4 uu7 uu8 from by rw[e9];exact HN3.out.put HZ3.out)
    have HL9:Hid (Below w.heap.size w W9):=Lib.hid (by rw[e9];exact below_put HW3.out (by omega))
    unfold putN at e9
    try dsimp only at e9
    rw[←e9]
    clear e9
    exact bodyPost_ret (results_cell_row2 Tryz.results47 _ _ (w.heap.size+2) 42 _ (0,0) _ rfl HB9.out Tryz.underlying42 rfl (by kernel_rfl)) rfl (by rw[HV.out,HVB.out];exact⟨⟨_,_,_,_,rfl,HN9.out.lower (by omega)⟩,HL9.out⟩)
  have HE1:Hid (N0=newN m pa pb):=Lib.hid (by rw[←HE0.out];unfold netNewN;rw[hk];rfl)
  have box11:Box (w2.alloc (.cells #[.int .i64 N0.mesh.g.w,.int .i64 N0.mesh.g.h,.slice u1 N0.mesh.br.length v1,.slice u2 N0.pa.length v2,.slice u3 N0.pb.length v3,.slice u4 N0.bufs.length v4,.slice u5 N0.owners.length v5,.slice u6 N0.turns.length v6,.slice u7 N0.srcs.length v7,.slice u8 N0.arrs.length v8,.int .i64 N0.time] 42)) w2.heap.size #[.int .i64 N0.mesh.g.w,.int .i64 N0.mesh.g.h,.slice u1 N0.mesh.br.length v1,.slice u2 N0.pa.length v2,.slice u3 N0.pb.length v3,.slice u4 N0.bufs.length v4,.slice u5 N0.owners.length v5,.slice u6 N0.turns.length v6,.slice u7 N0.srcs.length v7,.slice u8 N0.arrs.length v8,.int .i64 N0.time]:=HBT3.out.box
  obtain⟨xa0,xa1,xa2,xa3,xa4,xa5,xa6,xa7,xa8,xa9,xa10⟩:=all11 box11
  clear box11
  have xal:=HBT3.out.lt
  go_wp2_with fail
  clear xa0 xa1 xa2 xa3 xa4 xa5 xa6 xa7 xa8 xa9 xa10 xal
  obtain⟨w3,e3⟩:∃ z,z=(w2.alloc (.cells #[.int .i64 N0.mesh.g.w,.int .i64 N0.mesh.g.h,.slice u1 N0.mesh.br.length v1,.slice u2 N0.pa.length v2,.slice u3 N0.pb.length v3,.slice u4 N0.bufs.length v4,.slice u5 N0.owners.length v5,.slice u6 N0.turns.length v6,.slice u7 N0.srcs.length v7,.slice u8 N0.arrs.length v8,.int .i64 N0.time] 42)):=⟨_,rfl⟩
  rw[←e3] at HBT3 HN3 HZ3 HW3 ⊢
  have z3:w3.heap.size=w2.heap.size+1:=by rw[e3];simp only[szs]
  clear e3
  refine(spec_SendAll N0 l ⟨u1,u2,u3,u4,u5,u6,u7,u8,v1,v2,v3,v4,v5,v6,v7,v8⟩ D n _ (HN3.out.reads HNB0.out) (Kd.C_below HP.out HW3.out) hkl).mono ?_
  rintro e w4 ⟨hg,hb4⟩
  obtain⟨sq,ss4,ss7,ss8,rfl,HNs⟩:=hg
  obtain⟨N1,hN1⟩:∃ z,sendAllN N0 l=z:=⟨_,rfl⟩
  obtain⟨k1,hk1⟩:∃ z,sendAllK N0 l=z:=⟨_,rfl⟩
  rw[hN1] at HNs
  rw[hN1,hk1]
  have HS:Hid (startV m pa pb l=N1):=Lib.hid (by unfold startV startN;rw[hk,←HE1.out];exact hN1)
  have HK1:Hid (sendAllK (newN m pa pb) l=k1):=Lib.hid (by rw[←HE1.out];exact hk1)
  have HKO:=Lib.hid hk
  clear hN1 hk1 hk
  obtain⟨s1,s2,s3,s4,s5,s6,s7,s8,t1,t2,t3,t4,t5,t6,t7,t8⟩:=sq
  dsimp only [netCells]
  have HNs:=Lib.hid HNs
  have HB4:Hid (BN w4 w2.heap.size):=Lib.hid ((HBT3.out.below hb4).bn)
  have HZ4:=Lib.hid (HZ3.out.below hb4)
  have HW4:=Lib.hid (bw_then HW3.out hb4)
  have z4:=bw_size hb4
  clear hb4 HBT3 HN3 HZ3 HW3
  obtain⟨⟨ry0,rv0⟩,⟨ry1,rv1⟩,⟨ry2,rv2⟩,⟨ry3,rv3⟩,⟨ry4,rv4⟩,⟨ry5,rv5⟩,⟨ry6,rv6⟩,⟨ry7,rv7⟩,⟨ry8,rv8⟩,⟨ry9,rv9⟩,⟨ry10,rv10⟩,rz0,rz1,rz2,rz3,rz4,rz5,rz6,rz7,rz8,rz9,rz10⟩:=allBN HZ4.out
  obtain⟨⟨qy0,qv0⟩,⟨qy1,qv1⟩,⟨qy2,qv2⟩,⟨qy3,qv3⟩,⟨qy4,qv4⟩,⟨qy5,qv5⟩,⟨qy6,qv6⟩,⟨qy7,qv7⟩,⟨qy8,qv8⟩,⟨qy9,qv9⟩,⟨qy10,qv10⟩,qz0,qz1,qz2,qz3,qz4,qz5,qz6,qz7,qz8,qz9,qz10⟩:=allBN HB4.out
  have zl:=HZ4.out.lt
  have bl:=HB4.out.lt
  by_cases h2:k1=(l.length:Int)
  · have HVB:Hid (startB m pa pb l=true):=Lib.hid (by unfold startB;rw[HKO.out,HK1.out,decide_eq_true h2];rfl)
    subst h2
    go_wp2
    obtain⟨W8,e8⟩:∃ z,z=putN w4 w2.heap.size N1 ⟨s1,s2,s3,s4,s5,s6,s7,s8,t1,t2,t3,t4,t5,t6,t7,t8⟩:=⟨_,rfl⟩
    have HZ8:Hid (BN W8 (w.heap.size+2)):=Lib.hid (by rw[e8];exact bn_put HZ4.out (by omega))
    have HN8:=Lib.hid (show NX W8 _ N1 ⟨s1,s2,s3,s4,s5,s6,s7,s8,t1,t2,t3,t4,t5,t6,t7,t8⟩ ss4 ss7 ss8 from by rw[e8];exact HNs.out.put HB4.out)
    have HL8:Hid (Below w.heap.size w W8):=Lib.hid (by rw[e8];exact below_put HW4.out (by omega))
    obtain⟨W9,e9⟩:∃ z,z=putN W8 (w.heap.size+2) N1 ⟨s1,s2,s3,s4,s5,s6,s7,s8,t1,t2,t3,t4,t5,t6,t7,t8⟩:=⟨_,rfl⟩
    have HB9:Hid (BT W9 (w.heap.size+2) N1 ⟨s1,s2,s3,s4,s5,s6,s7,s8,t1,t2,t3,t4,t5,t6,t7,t8⟩):=Lib.hid (by rw[e9];exact putN_BT HZ8.out)
    have HN9:=Lib.hid (show NX W9 _ N1 ⟨s1,s2,s3,s4,s5,s6,s7,s8,t1,t2,t3,t4,t5,t6,t7,t8⟩ ss4 ss7 ss8 from by rw[e9];exact HN8.out.put HZ8.out)
    have HL9:Hid (Below w.heap.size w W9):=Lib.hid (by rw[e9];exact below_put HL8.out (by omega))
    unfold putN at e8 e9
    try dsimp only at e8 e9
    rw[←e8,←e9]
    clear e8 e9
    exact bodyPost_ret (results_cell_row2 Tryz.results47 _ _ (w.heap.size+2) 42 _ (0,0) _ rfl HB9.out Tryz.underlying42 rfl (by kernel_rfl)) rfl (by rw[HS.out,HVB.out];exact⟨⟨_,_,_,_,rfl,HN9.out.lower (by omega)⟩,HL9.out⟩)
  · have HVB:Hid (startB m pa pb l=false):=Lib.hid (by unfold startB;rw[HKO.out,HK1.out,decide_eq_false h2];rfl)
    have e2:(k1 == (l.length:Int))=false:=beq_eq_false_iff_ne.2 h2
    go_wp2
    obtain⟨W8,e8⟩:∃ z,z=putN w4 w2.heap.size N1 ⟨s1,s2,s3,s4,s5,s6,s7,s8,t1,t2,t3,t4,t5,t6,t7,t8⟩:=⟨_,rfl⟩
    have HZ8:Hid (BN W8 (w.heap.size+2)):=Lib.hid (by rw[e8];exact bn_put HZ4.out (by omega))
    have HN8:=Lib.hid (show NX W8 _ N1 ⟨s1,s2,s3,s4,s5,s6,s7,s8,t1,t2,t3,t4,t5,t6,t7,t8⟩ ss4 ss7 ss8 from by rw[e8];exact HNs.out.put HB4.out)
    have HL8:Hid (Below w.heap.size w W8):=Lib.hid (by rw[e8];exact below_put HW4.out (by omega))
    obtain⟨W9,e9⟩:∃ z,z=putN W8 (w.heap.size+2) N1 ⟨s1,s2,s3,s4,s5,s6,s7,s8,t1,t2,t3,t4,t5,t6,t7,t8⟩:=⟨_,rfl⟩
    have HB9:Hid (BT W9 (w.heap.size+2) N1 ⟨s1,s2,s3,s4,s5,s6,s7,s8,t1,t2,t3,t4,t5,t6,t7,t8⟩):=Lib.hid (by rw[e9];exact putN_BT HZ8.out)
    have HN9:=Lib.hid (show NX W9 _ N1 ⟨s1,s2,s3,s4,s5,s6,s7,s8,t1,t2,t3,t4,t5,t6,t7,t8⟩ ss4 ss7 ss8 from by rw[e9];exact HN8.out.put HZ8.out)
    have HL9:Hid (Below w.heap.size w W9):=Lib.hid (by rw[e9];exact below_put HL8.out (by omega))
    unfold putN at e8 e9
    try dsimp only at e8 e9
    rw[←e8,←e9]
    clear e8 e9
    exact bodyPost_ret (results_cell_row2 Tryz.results47 _ _ (w.heap.size+2) 42 _ (0,0) _ rfl HB9.out Tryz.underlying42 rfl (by kernel_rfl)) rfl (by rw[HS.out,HVB.out];exact⟨⟨_,_,_,_,rfl,HN9.out.lower (by omega)⟩,HL9.out⟩)
set_option maxHeartbeats 8000000 in
set_option maxRecDepth 100000 in
theorem spec_Delivers (m:Mesh) (pa pb:List Int) (l:List Packet) (A B C D:Option Addr) (c d k n:Nat) (w:World) (hr:Kd.C (Kd.int .i64) w A m.br.length m.br) (hn:m.br.length≤2097152) (ha:Kd.C (Kd.int .i64) w B pa.length pa) (hka:pa.length≤2097152) (hb:Kd.C (Kd.int .i64) w C pb.length pb) (hkb:pb.length≤2097152) (hp:kP.C w D l.length l) (hkl:l.length≤2097152) :
    Calls Tryz.prog 46 #[.agg #[.int .i64 m.g.w,.int .i64 m.g.h,.slice A m.br.length c],.agg #[.slice B pa.length d,.slice C pb.length k],.slice D l.length n] w fun e w'=>e=.returned (.bool (decide (0≤deliverN m pa pb l)))∧Below w.heap.size w w':=by
  have HR:=Lib.hid hr
  have HA:=Lib.hid ha
  have HB:=Lib.hid hb
  have HP:=Lib.hid hp
  clear hr ha hb hp
  go_enter Tryz.func46,Tryz.ntmps46
  go_wp2_with fail
  refine(spec_l26Start m pa pb l A B C D c d k n _ (by exact Kd.C_below HR.out bel) hn (by exact Kd.C_below HA.out bel) hka (by exact Kd.C_below HB.out bel) hkb (by exact Kd.C_below HP.out bel) hkl).mono ?_
  rintro e w2 ⟨hg,Bb⟩
  obtain⟨uq,uu4,uu7,uu8,rfl,HNu⟩:=hg
  have HNu:=Lib.hid HNu
  obtain⟨N1,hN1⟩:∃ z,startV m pa pb l=z:=⟨_,rfl⟩
  have HNB1:Hid (NB N1):=Lib.hid (by rw[←hN1];exact startV_nb hn hka hkb)
  have HAR:Hid (∀ x∈N1.arrs,x.length≤1048576):=Lib.hid (by rw[←hN1];exact startV_arrs m pa pb l)
  rw[hN1] at HNu
  rw[hN1]
  have HS:=Lib.hid hN1
  clear hN1
  obtain⟨u1,u2,u3,u4,u5,u6,u7,u8,v1,v2,v3,v4,v5,v6,v7,v8⟩:=uq
  dsimp only [netCells]

  have hbw2:Below w.heap.size w w2:=bw_then (bw_alloc _ (bw_alloc _ (bw_refl w))) Bb
  clear Bb
  cases hs:startB m pa pb l
  · have HE:=Lib.hid (startB_no hs)
    go_wp2
    go_ret
    exact⟨ret_bool (by rw[HE.out];rfl),bel⟩
  obtain⟨hk,hk1,hsv⟩:=startB_yes hs
  have HK:=Lib.hid hk
  have HK1:=Lib.hid hk1
  have HSN:Hid (startN m pa pb l=N1):=Lib.hid (by rw[←hsv];exact HS.out)
  clear hs hk hk1 hsv
  go_wp2_with fail
  refine(spec_RunToIdle N1 ⟨u1,u2,u3,u4,u5,u6,u7,u8,v1,v2,v3,v4,v5,v6,v7,v8⟩ _ ((HNu.out.reads HNB1.out).below bel) HAR.out).mono ?_
  rintro e w6 ⟨hg,hb6⟩
  obtain⟨pq,p4,p7,p8,rfl,HNp⟩:=hg
  have HNp:=Lib.hid HNp
  obtain⟨N2,hN2⟩:∃ z,runIdleN N1=z:=⟨_,rfl⟩
  obtain⟨t,ht⟩:∃ z,toIdleN N1=z:=⟨_,rfl⟩
  have HNB2:Hid (NB N2):=Lib.hid (by rw[←hN2];exact runIdle_nb HNB1.out HAR.out)
  rw[hN2] at HNp
  rw[hN2,ht]
  have HT:Hid (toIdleN (startN m pa pb l)=t):=Lib.hid (by rw[HSN.out];exact ht)
  have HI:Hid (runIdleN (startN m pa pb l)=N2):=Lib.hid (by rw[HSN.out];exact hN2)
  clear hN2 ht
  obtain⟨p1,p2,p3,p4,p5,p6,p7,p8,r1,r2,r3,r4,r5,r6,r7,r8⟩:=pq
  dsimp only [netCells]
  have hbw6:Below w.heap.size w w6:=bw_then (bw_alloc _ hbw2) hb6
  clear hb6 hbw2
  by_cases h3:0≤t
  case neg=>
    have HE:=Lib.hid (deliver_no3 (m:=m) (pa:=pa) (pb:=pb) (l:=l) (by rw[HT.out];omega))
    rw[decide_eq_false h3]
    go_wp2
    go_ret
    exact⟨ret_bool (by rw[HE.out];rfl),bel⟩
  rw[decide_eq_true h3]
  go_wp2_with fail
  refine(spec_Missing N2 l ⟨p1,p2,p3,p4,p5,p6,p7,p8,r1,r2,r3,r4,r5,r6,r7,r8⟩ D n _ ((HNp.out.reads HNB2.out).below bel) (by exact Kd.C_below HP.out bel) hkl).mono ?_
  rintro e w8 ⟨hg,hb8⟩
  obtain⟨v8,rfl,HM⟩:=hg
  obtain⟨Am,cm,rfl⟩:=Kd.R_slice HM
  have hbw8:Below w.heap.size w w8:=bw_then (bw_alloc _ hbw6) hb8
  clear hb8 hbw6 HM
  obtain⟨ml,hml⟩:∃ z,(missN N2 l).length=z:=⟨_,rfl⟩
  have HML:Hid ((missN (runIdleN (startN m pa pb l)) l).length=ml):=Lib.hid (by rw[HI.out];exact hml)
  rw[hml]
  clear hml
  by_cases h4:ml=0
  · subst h4
    have HE:=Lib.hid (deliver_yes HK.out HK1.out (by rw[HT.out];omega) HML.out)
    rw[HT.out] at HE
    have HH3:=Lib.hid h3
    go_wp2
    go_ret
    exact⟨ret_bool (by rw[HE.out,decide_eq_true HH3.out]),bel⟩
  · have HE:=Lib.hid (deliver_no4 (m:=m) (pa:=pa) (pb:=pb) (l:=l) (by rw[HML.out];exact h4))
    have h5:¬ (ml:Int)=0:=by omega
    go_wp2
    go_ret
    exact⟨ret_bool (by rw[HE.out];simp[h4]),bel⟩
set_option maxHeartbeats 8000000 in
set_option maxRecDepth 100000 in
theorem spec_DrainTime (m:Mesh) (pa pb:List Int) (l:List Packet) (A B C D:Option Addr) (c d k n:Nat) (w:World) (hr:Kd.C (Kd.int .i64) w A m.br.length m.br) (hn:m.br.length≤2097152) (ha:Kd.C (Kd.int .i64) w B pa.length pa) (hka:pa.length≤2097152) (hb:Kd.C (Kd.int .i64) w C pb.length pb) (hkb:pb.length≤2097152) (hp:kP.C w D l.length l) (hkl:l.length≤2097152) :
    Calls Tryz.prog 11 #[.agg #[.int .i64 m.g.w,.int .i64 m.g.h,.slice A m.br.length c],.agg #[.slice B pa.length d,.slice C pb.length k],.slice D l.length n] w fun e w'=>e=.returned (.int .i64 (deliverN m pa pb l))∧Below w.heap.size w w':=by
  have HR:=Lib.hid hr
  have HA:=Lib.hid ha
  have HB:=Lib.hid hb
  have HP:=Lib.hid hp
  clear hr ha hb hp
  go_enter Tryz.func11,Tryz.ntmps11
  go_wp2_with fail
  refine(spec_Delivers m pa pb l A B C D c d k n _ (by exact Kd.C_below HR.out bel) hn (by exact Kd.C_below HA.out bel) hka (by exact Kd.C_below HB.out bel) hkb (by exact Kd.C_below HP.out bel) hkl).mono ?_
  rintro e w1 ⟨rfl,Ba⟩
  have hbw1:Below w.heap.size w w1:=bw_then (bw_alloc _ (bw_alloc _ (bw_refl w))) Ba
  have HBM:=Lib.hid ((Box.alloc (Box.new w w.heap.size #[.int .i64 m.g.w,.int .i64 m.g.h,.slice A m.br.length c] 28 rfl) (.cells #[.slice B pa.length d,.slice C pb.length k] 32)).below Ba)
  have HBC:=Lib.hid ((Box.new (w.alloc (.cells #[.int .i64 m.g.w,.int .i64 m.g.h,.slice A m.br.length c] 28)) (w.heap.size+1) #[.slice B pa.length d,.slice C pb.length k] 32 (by simp only[szs])).below Ba)
  have hrg:=deliver_range m pa pb l
  clear Ba
  by_cases h0:0≤deliverN m pa pb l
  case neg=>
    have HE:Hid (deliverN m pa pb l=-1):=Lib.hid (by omega)
    rw[decide_eq_false h0]
    clear hrg h0
    go_wp2
    go_ret
    exact⟨ret_int HE.out.symm,bel⟩
  have HD:=Lib.hid (deliver_is h0)
  rw[decide_eq_true h0]
  clear hrg h0
  have x0:w1.cell? ⟨w.heap.size,0,none⟩=some (.int .i64 m.g.w):=HBM.out.get 0
  have x1:w1.cell? ⟨w.heap.size,1,none⟩=some (.int .i64 m.g.h):=HBM.out.get 1
  have x2:w1.cell? ⟨w.heap.size,2,none⟩=some (.slice A m.br.length c):=HBM.out.get 2
  have x3:w1.cell? ⟨w.heap.size+1,0,none⟩=some (.slice B pa.length d):=HBC.out.get 0
  have x4:w1.cell? ⟨w.heap.size+1,1,none⟩=some (.slice C pb.length k):=HBC.out.get 1
  have xl0:=HBM.out.lt
  have xl1:=HBC.out.lt
  go_wp2_with fail
  refine(spec_l26Start m pa pb l A B C D c d k n _ (by exact Kd.C_below HR.out bel) hn (by exact Kd.C_below HA.out bel) hka (by exact Kd.C_below HB.out bel) hkb (by exact Kd.C_below HP.out bel) hkl).mono ?_
  rintro e w2 ⟨hg,Bb⟩
  obtain⟨uq,uu4,uu7,uu8,rfl,HNu⟩:=hg
  have HNu:=Lib.hid HNu
  obtain⟨N1,hN1⟩:∃ z,startV m pa pb l=z:=⟨_,rfl⟩
  have HNB1:Hid (NB N1):=Lib.hid (by rw[←hN1];exact startV_nb hn hka hkb)
  have HAR:Hid (∀ x∈N1.arrs,x.length≤1048576):=Lib.hid (by rw[←hN1];exact startV_arrs m pa pb l)
  rw[hN1] at HNu
  rw[hN1]
  have HS:=Lib.hid hN1
  clear hN1
  obtain⟨u1,u2,u3,u4,u5,u6,u7,u8,v1,v2,v3,v4,v5,v6,v7,v8⟩:=uq
  dsimp only [netCells]

  have hbw2:Below w.heap.size w w2:=bw_then hbw1 Bb
  clear Bb hbw1 x0 x1 x2 x3 x4 xl0 xl1
  obtain⟨sb,hsb⟩:∃ z,startB m pa pb l=z:=⟨_,rfl⟩
  rw[hsb]
  clear hsb
  go_wp2_with fail
  refine(spec_StepsToIdle N1 ⟨u1,u2,u3,u4,u5,u6,u7,u8,v1,v2,v3,v4,v5,v6,v7,v8⟩ _ ((HNu.out.reads HNB1.out).below bel) HAR.out).mono ?_
  rintro e w6 ⟨rfl,hb6⟩
  have HE:Hid (deliverN m pa pb l=toIdleN N1):=Lib.hid (by rw[HD.out.2,←HD.out.1,HS.out])
  have hbw6:Below w.heap.size w w6:=bw_then (bw_alloc _ hbw2) hb6
  clear hb6 hbw2
  go_wp2
  go_ret
  exact⟨ret_int HE.out.symm,bel⟩
def badIdx (g:Grid) (l:List Packet):Int:=if l.all (packetOk g) then -1 else ((l.findIdx (fun p=>!packetOk g p):Nat):Int)
theorem badIdx_yes {g:Grid} {l:List Packet} (j:Nat) (hj:j<l.length) (h:packetOk g (rp l j)=false) (hb:∀ x:Nat,x<j→packetOk g (rp l x)=true):badIdx g l=j:=by
  unfold badIdx
  rw[all_no j hj h]
  have:l.findIdx (fun p=>!packetOk g p)=j:=by
    rw[List.findIdx_eq hj]
    rw[rp_get l j hj] at h
    refine⟨by simp[h],fun i hi=>?_⟩
    have:=hb i hi
    rw[rp_get l i (by omega)] at this
    simp[this]
  simp[this]
theorem badIdx_no {g:Grid} {l:List Packet} (h:∀ x:Nat,x<l.length→packetOk g (rp l x)=true):badIdx g l=-1:=by
  unfold badIdx
  rw[all_yes h]
  rfl
theorem badIdx_ge (g:Grid) (l:List Packet):decide (0≤badIdx g l)=!(l.all (packetOk g)):=by
  unfold badIdx
  cases h:l.all (packetOk g)
  · simp
  · simp
theorem impl_arePackets_1 (m:Mesh) (q:Packet) (gm:Nat) (w:World) (h0:w.cell? ⟨gm,0,none⟩=some (.int .i64 m.g.w)) (h1:w.cell? ⟨gm,1,none⟩=some (.int .i64 m.g.h)) :
    Calls Tryz.prog 111 #[.agg #[.int .i64 q.id,.int .i64 q.src,.int .i64 q.dst,.int .i64 q.cls,.int .i64 q.len],.pointer (some ⟨gm,0,none⟩)] w fun e w'=>e=.returned (.bool (!packetOk m.g q))∧Below w.heap.size w w':=by
  have g0:=World.block_lt_of_cell? w _ h0
  go_enter Tryz.func111,Tryz.ntmps111
  go_wp2_with (go_at_call 43;refine(impl_PacketOk m.g q _).mono ?_;rintro e w1 ⟨rfl,Ba⟩;obtain⟨Ca,Fa,Za⟩:=bcell Ba;(try simp only[szs] at Za);have Bb:=far2;obtain⟨Cb,Fb,Zb⟩:=bcell Bb;(try simp only[szs] at Zb);try (first|obtain⟨Ya,Yb,Yc,Yd⟩:=lts4 Zb|obtain⟨Ya,Yb,Yc⟩:=lts3 Zb|obtain⟨Ya,Yb⟩:=lts2 Zb|have Ya:=lts1 Zb);have hb9:=Ba)
  go_ret
  exact⟨rfl,bel⟩
set_option maxHeartbeats 1000000 in
theorem slices_IndexFunc_P (m:Mesh) (l:List Packet) (D:Option Addr) (n gm:Nat) (w:World) (hp:kP.C w D l.length l) (hkl:l.length≤2097152) (h0:w.cell? ⟨gm,0,none⟩=some (.int .i64 m.g.w)) (h1:w.cell? ⟨gm,1,none⟩=some (.int .i64 m.g.h)) :
    Calls Tryz.prog 119 #[.slice D l.length n,.func (.func 111) #[] #[.pointer (some ⟨gm,0,none⟩)]] w fun e w'=>e=.returned (.int .i64 (badIdx m.g l))∧Below w.heap.size w w':=by
  have g0:=World.block_lt_of_cell? w _ h0
  have hcall:∀ (q:Packet) (w':World),Below w.heap.size w w'→Calls Tryz.prog 111 #[.agg #[.int .i64 q.id,.int .i64 q.src,.int .i64 q.dst,.int .i64 q.cls,.int .i64 q.len],.pointer (some ⟨gm,0,none⟩)] w' fun e w''=>e=.returned (.bool (!packetOk m.g q))∧Below w'.heap.size w' w'':=by
    intro q w' hb
    obtain⟨hc,_,_⟩:=bcell hb
    exact impl_arePackets_1 m q gm w' ((hc _ _ g0).trans h0) ((hc _ _ g0).trans h1)
  have HCALL:=Lib.hid hcall
  clear hcall h0 h1 g0
  go_enter Tryz.func119,Tryz.ntmps119
  go_wp2
  go_loopw [8] (fun i wr=>∃ j:Nat,i=.int .i64 j∧j≤l.length∧Hid (∀ x:Nat,x<j→packetOk m.g (rp l x)=true)∧Below w.heap.size w wr) (fun i _=>l.length - (intOf i).toNat)
  case atStart=>exact⟨0,rfl,Nat.zero_le _,Lib.hid fun x h=>absurd h (Nat.not_lt_zero _),bel⟩
  case round=>
    obtain⟨j,rfl,hj,HA,HB⟩:=hrel
    obtain⟨hc0,hf0,hz0⟩:=bcell HB
    by_cases hlt:j<l.length
    · obtain⟨b,off,rfl,hbl,p0,p1,p2,p3,p4⟩:=rdP_at hp j hlt
      cases hk:packetOk m.g (rp l j)
      · have HK:=Lib.hid hk
        have e1:(!packetOk m.g (rp l j))=true:=by rw[hk];rfl
        have E1:=Lib.hid e1
        clear hk e1
        go_wp2_with (go_at_call 111;refine(HCALL.out (rp l j) _ (by exact bel)).mono ?_;rintro e w1 ⟨he,Ba⟩;rw[E1.out] at he;subst he;obtain⟨Ca,Fa,Za⟩:=bcell Ba;(try simp only[szs] at Za);have Bb:=far2;obtain⟨Cb,Fb,Zb⟩:=bcell Bb;(try simp only[szs] at Zb);try (first|obtain⟨Ya,Yb,Yc,Yd⟩:=lts4 Zb|obtain⟨Ya,Yb,Yc⟩:=lts3 Zb|obtain⟨Ya,Yb⟩:=lts2 Zb|have Ya:=lts1 Zb);have hb9:=Ba)
        go_ret
        exact⟨ret_int (badIdx_yes j hlt HK.out HA.out).symm,bel⟩
      · have HK:=Lib.hid hk
        have e1:(!packetOk m.g (rp l j))=false:=by rw[hk];rfl
        have E1:=Lib.hid e1
        clear hk e1
        go_wp2_with (go_at_call 111;refine(HCALL.out (rp l j) _ (by exact bel)).mono ?_;rintro e w1 ⟨he,Ba⟩;rw[E1.out] at he;subst he;obtain⟨Ca,Fa,Za⟩:=bcell Ba;(try simp only[szs] at Za);have Bb:=far2;obtain⟨Cb,Fb,Zb⟩:=bcell Bb;(try simp only[szs] at Zb);try (first|obtain⟨Ya,Yb,Yc,Yd⟩:=lts4 Zb|obtain⟨Ya,Yb,Yc⟩:=lts3 Zb|obtain⟨Ya,Yb⟩:=lts2 Zb|have Ya:=lts1 Zb);have hb9:=Ba)
        go_roundw
        case rel=>exact⟨j+1,by go_num,by omega,Lib.hid (upto HA.out HK.out),bel⟩
        case measure=>simp[intOf];omega
    · go_wp2
      go_ret
      exact⟨ret_int (badIdx_no (fun x hx=>HA.out x (by omega))).symm,bel⟩
theorem slices_ContainsFunc_P (m:Mesh) (l:List Packet) (D:Option Addr) (n gm:Nat) (w:World) (hp:kP.C w D l.length l) (hkl:l.length≤2097152) (h0:w.cell? ⟨gm,0,none⟩=some (.int .i64 m.g.w)) (h1:w.cell? ⟨gm,1,none⟩=some (.int .i64 m.g.h)) :
    Calls Tryz.prog 59 #[.slice D l.length n,.func (.func 111) #[] #[.pointer (some ⟨gm,0,none⟩)]] w fun e w'=>e=.returned (.bool (!(l.all (packetOk m.g))))∧Below w.heap.size w w':=by
  go_enter Tryz.func59,Tryz.ntmps59
  go_wp2_with (go_at_call 119;refine(slices_IndexFunc_P m l D n gm _ hp hkl h0 h1).mono ?_;rintro e w1 ⟨rfl,Ba⟩;obtain⟨Ca,Fa,Za⟩:=bcell Ba;(try simp only[szs] at Za);have Bb:=far2;obtain⟨Cb,Fb,Zb⟩:=bcell Bb;(try simp only[szs] at Zb);try (first|obtain⟨Ya,Yb,Yc,Yd⟩:=lts4 Zb|obtain⟨Ya,Yb,Yc⟩:=lts3 Zb|obtain⟨Ya,Yb⟩:=lts2 Zb|have Ya:=lts1 Zb);have hb9:=Ba)
  go_ret
  exact⟨ret_bool (by simpa using badIdx_ge m.g l),bel⟩

set_option maxHeartbeats 1000000 in
set_option maxRecDepth 100000 in
theorem impl_arePackets (m:Mesh) (pa pb:List Int) (l:List Packet) (A B C D:Option Addr) (c d k n:Nat) (w:World) (hr:Kd.C (Kd.int .i64) w A m.br.length m.br) (hn:m.br.length≤2097152) (ha:Kd.C (Kd.int .i64) w B pa.length pa) (hka:pa.length≤2097152) (hb:Kd.C (Kd.int .i64) w C pb.length pb) (hkb:pb.length≤2097152) (hp:kP.C w D l.length l) (hkl:l.length≤2097152) :
    Calls Tryz.prog 49 #[.agg #[.int .i64 m.g.w,.int .i64 m.g.h,.slice A m.br.length c],.agg #[.slice B pa.length d,.slice C pb.length k],.slice D l.length n] w fun e w'=>e=.returned (.bool (arePk m pa pb l))∧Below w.heap.size w w':=by
  go_enter Tryz.func49,Tryz.ntmps49
  cases h1:classesOk m pa pb
  · go_wp2_with (go_at_call 42;refine(impl_ClassesOk m pa pb _ _ _ _ _ _ _ (by exact Kd.C_below hr bel) hn (by exact Kd.C_below ha bel) hka (by exact Kd.C_below hb bel) hkb).mono ?_;rintro e w1 ⟨rfl,Ba⟩;obtain⟨Ca,Fa,Za⟩:=bcell Ba;(try simp only[szs] at Za);have Bb:=far2;obtain⟨Cb,Fb,Zb⟩:=bcell Bb;(try simp only[szs] at Zb);try (first|obtain⟨Ya,Yb,Yc,Yd⟩:=lts4 Zb|obtain⟨Ya,Yb,Yc⟩:=lts3 Zb|obtain⟨Ya,Yb⟩:=lts2 Zb|have Ya:=lts1 Zb);have hb9:=Ba)
    go_ret
    exact⟨ret_bool (by simp[arePk,h1]),bel⟩
  · go_wp2_with (first|(go_at_call 42;refine(impl_ClassesOk m pa pb _ _ _ _ _ _ _ (by exact Kd.C_below hr bel) hn (by exact Kd.C_below ha bel) hka (by exact Kd.C_below hb bel) hkb).mono ?_;rintro e w1 ⟨rfl,Ba⟩;obtain⟨Ca,Fa,Za⟩:=bcell Ba;(try simp only[szs] at Za);have Bb:=far2;obtain⟨Cb,Fb,Zb⟩:=bcell Bb;(try simp only[szs] at Zb);try (first|obtain⟨Ya,Yb,Yc,Yd⟩:=lts4 Zb|obtain⟨Ya,Yb,Yc⟩:=lts3 Zb|obtain⟨Ya,Yb⟩:=lts2 Zb|have Ya:=lts1 Zb);have hb9:=Ba)|(go_at_call 59;refine(slices_ContainsFunc_P m l D _ _ _ (by exact Kd.C_below hp bel) hkl ?_ ?_).mono ?_;go_simp;go_simp;rintro e w1 ⟨rfl,Ba⟩;obtain⟨Ca,Fa,Za⟩:=bcell Ba;(try simp only[szs] at Za);have Bb:=far2;obtain⟨Cb,Fb,Zb⟩:=bcell Bb;(try simp only[szs] at Zb);try (first|obtain⟨Ya,Yb,Yc,Yd⟩:=lts4 Zb|obtain⟨Ya,Yb,Yc⟩:=lts3 Zb|obtain⟨Ya,Yb⟩:=lts2 Zb|have Ya:=lts1 Zb);have hb9:=Ba))
    go_ret
    exact⟨ret_bool (by simp[arePk,h1]),bel⟩

set_option maxHeartbeats 2000000 in
set_option maxRecDepth 100000 in
theorem impl_loads (m:Mesh) (pa pb:List Int) (l:List Packet) (A B C D:Option Addr) (c d k n:Nat) (w:World) (hr:Kd.C (Kd.int .i64) w A m.br.length m.br) (hn:m.br.length≤2097152) (ha:Kd.C (Kd.int .i64) w B pa.length pa) (hka:pa.length≤2097152) (hb:Kd.C (Kd.int .i64) w C pb.length pb) (hkb:pb.length≤2097152) (hp:kP.C w D l.length l) (hkl:l.length≤2097152) (hall:l.all (packetOk m.g)=true) (hpos:0<nodeCount m.g) :
  Calls Tryz.prog 50 #[.agg #[.int .i64 m.g.w,.int .i64 m.g.h,.slice A m.br.length c],.agg #[.slice B pa.length d,.slice C pb.length k],.slice D l.length n] w fun e w'=>GotI w w' (loadsL m pa pb l) e∧Below w.heap.size w w':=by
 obtain⟨n0,n1⟩:=count_le m.g
 obtain⟨N,hN⟩:∃ N:Nat,nodeCount m.g=(N:Int):=⟨(nodeCount m.g).toNat,by omega⟩
 have hN1:1≤N:=by omega
 have hN16:N≤16:=by omega
 have hch:chans m=4*N:=by unfold chans;omega
 have HCH:=Lib.hid hch
 have HC:=Lib.hid hN
 have HALL:=Lib.hid hall
 clear hN n0 n1 hch hall hpos
 go_enter Tryz.func50,Tryz.ntmps50
 go_wp2_with (first|(go_at_call 51;refine(impl_NodeCount m.g _).mono ?_;rintro e w1 ⟨he,Ba⟩;rw[HC.out] at he;subst he;obtain⟨Ca,Fa,Za⟩:=bcell Ba;(try simp only[szs] at Za);have Bb:=far2;obtain⟨Cb,Fb,Zb⟩:=bcell Bb;(try simp only[szs] at Zb);try (first|obtain⟨Ya,Yb,Yc,Yd⟩:=lts4 Zb|obtain⟨Ya,Yb,Yc⟩:=lts3 Zb|obtain⟨Ya,Yb⟩:=lts2 Zb|have Ya:=lts1 Zb);have hb9:=Ba)|(refine make_int (W0:=((w.alloc (.cells #[.int .i64 m.g.w,.int .i64 m.g.h,.slice A m.br.length c] 28)).alloc (.cells #[.slice B pa.length d,.slice C pb.length k] 32))) rfl (N:=16) rfl 26 3 (.tmp 15) (.tmp 15) rfl (4*N) (congrArg (Value.int .i64) (show 4*(N:Int)=((4*N:Nat):Int) by omega)) (congrArg (Value.int .i64) (show 4*(N:Int)=((4*N:Nat):Int) by omega)) Tryz.underlying26 info_int (by omega) bel ?_;intro v1 w1 HO1 HB1;obtain⟨Ca,Fa,Za⟩:=bcell HB1;(try simp only[szs] at Za);have Bb:=HB1;have hb9:=HB1))
 obtain⟨g,cap,hv,hgb,hgl,cells,HG⟩:=Kd.R_form HO1 (by simp;omega)
 rw[List.length_replicate] at hv
 subst hv
 clear HG
 have HGB:=Lib.hid hgb
 clear hgb
 go_wp2
 go_loopw [19] (fun i wr=>∃ (j:Nat) (x:List Int),i=.int .i64 j∧j≤l.length∧Hid (x.length=4*N)∧Hid (∀ ch:Nat,ch<4*N→ri x ch=loadAt m pa pb (l.take j) ch)∧Kd.R (Kd.int .i64) 3 wr ((w.alloc (.cells #[.int .i64 m.g.w,.int .i64 m.g.h,.slice A m.br.length c] 28)).alloc (.cells #[.slice B pa.length d,.slice C pb.length k] 32)).heap.size (fun _=>True) (.slice (some ⟨g,0,none⟩) (4*N) cap) x∧Below ((w.alloc (.cells #[.int .i64 m.g.w,.int .i64 m.g.h,.slice A m.br.length c] 28)).alloc (.cells #[.slice B pa.length d,.slice C pb.length k] 32)).heap.size ((w.alloc (.cells #[.int .i64 m.g.w,.int .i64 m.g.h,.slice A m.br.length c] 28)).alloc (.cells #[.slice B pa.length d,.slice C pb.length k] 32)) wr) (fun i _=>l.length - (intOf i).toNat)
 case atStart=>exact⟨0,List.replicate (4*N) 0,rfl,Nat.zero_le _,Lib.hid (by simp),Lib.hid (fun ch h=>by rw[ri_replicate _ _ h];rfl),HO1,HB1⟩
 case round=>
  clear HO1 HB1 hgl
  obtain⟨j,x,rfl,hj,HL,HA,HO,HB⟩:=hrel
  obtain⟨hc0,hf0,hz0⟩:=bcell HB
  simp only[szs] at hz0
  obtain⟨yy1,yy2⟩:=lts2 hz0
  by_cases hlt:j<l.length
  ·obtain⟨b,off,rfl,hbl,p0,p1,p2,p3,p4⟩:=rdP_at hp j hlt
   obtain⟨z1,z2,z3,z4,z5,z6⟩:=more hbl
   have hgl:g<wr.heap.size:=Kd.R_lt HO g rfl
   have hwl:=wt_len m (tabOf pa pb (rp l j).cls) (rp l j).src (rp l j).dst
   obtain⟨l1,l2⟩:=packetOk_len (all_get HALL.out j hlt)
   by_cases hcl:(rp l j).cls=1
   ·have e1:((rp l j).cls == 1)=true:=beq_iff_eq.2 hcl
    rw[tabOf,if_pos hcl] at hwl
    have HAD:∀ ch:Int,addsTo m pa pb (rp l j) ch=if has (wt m pb (rp l j).src (rp l j).dst) ch then (rp l j).len else 0:=fun ch=>by rw[addsTo,walkP,tabOf,if_pos hcl]
    have HAD:=Lib.hid HAD
    clear hcl
    generalize hwe:wt m pb (rp l j).src (rp l j).dst=wl at hwl HAD
    have HWE:=Lib.hid hwe
    clear hwe
    go_wp2_with fail
    go_region_held3 (fun w'=>Below (wr.alloc (.cells #[.int .i64 (rp l j).id,.int .i64 (rp l j).src,.int .i64 (rp l j).dst,.int .i64 (rp l j).cls,.int .i64 (rp l j).len] 38)).heap.size (wr.alloc (.cells #[.int .i64 (rp l j).id,.int .i64 (rp l j).src,.int .i64 (rp l j).dst,.int .i64 (rp l j).cls,.int .i64 (rp l j).len] 38)) w'∧∀ bq oq,bq<(wr.alloc (.cells #[.int .i64 (rp l j).id,.int .i64 (rp l j).src,.int .i64 (rp l j).dst,.int .i64 (rp l j).cls,.int .i64 (rp l j).len] 38)).heap.size→w'.cell? ⟨bq,oq,none⟩=(wr.alloc (.cells #[.int .i64 (rp l j).id,.int .i64 (rp l j).src,.int .i64 (rp l j).dst,.int .i64 (rp l j).cls,.int .i64 (rp l j).len] 38)).cell? ⟨bq,oq,none⟩) (first|exact far_of bel) ( first|(go_at_call 45;refine(impl_tableFor_b pa pb B C d k _ e1 _).mono ?_;rintro e w1 ⟨rfl,Ba⟩;obtain⟨Ca,Fa,Za⟩:=bcell Ba;(try simp only[szs] at Za);have Bb:=far2;obtain⟨Cb,Fb,Zb⟩:=bcell Bb;(try simp only[szs] at Zb);try (first|obtain⟨Ya,Yb,Yc,Yd⟩:=lts4 Zb|obtain⟨Ya,Yb,Yc⟩:=lts3 Zb|obtain⟨Ya,Yb⟩:=lts2 Zb|have Ya:=lts1 Zb);have hb9:=Ba)|(go_at_call 44;refine(impl_WalkTable m pb (rp l j).src (rp l j).dst A C _ _ _ (by exact Kd.C_below hr bel) hn (by exact Kd.C_below hb bel) hkb).mono ?_;rintro e w1 ⟨hg1,Ba⟩;rw[HWE.out] at hg1;obtain⟨v1,rfl,HO1⟩:=hg1;obtain⟨A1,c1,rfl,hk1,hr1⟩:=Kd.R_reads HO1;have HOL:=Kd.R_lower (base':=(wr.alloc (.cells #[.int .i64 (rp l j).id,.int .i64 (rp l j).src,.int .i64 (rp l j).dst,.int .i64 (rp l j).cls,.int .i64 (rp l j).len] 38)).heap.size) HO1 (bw_size bel);simp only[szs] at HOL;clear HO1;obtain⟨Ca,Fa,Za⟩:=bcell Ba;(try simp only[szs] at Za);have Bb:=far2;obtain⟨Cb,Fb,Zb⟩:=bcell Bb;(try simp only[szs] at Zb);try (first|obtain⟨Ya,Yb,Yc,Yd⟩:=lts4 Zb|obtain⟨Ya,Yb,Yc⟩:=lts3 Zb|obtain⟨Ya,Yb⟩:=lts2 Zb|have Ya:=lts1 Zb);have hb9:=Ba))
    have Bb:Below (wr.alloc (.cells #[.int .i64 (rp l j).id,.int .i64 (rp l j).src,.int .i64 (rp l j).dst,.int .i64 (rp l j).cls,.int .i64 (rp l j).len] 38)).heap.size (wr.alloc (.cells #[.int .i64 (rp l j).id,.int .i64 (rp l j).src,.int .i64 (rp l j).dst,.int .i64 (rp l j).cls,.int .i64 (rp l j).len] 38)) w1:=by first|exact Bb|exact bw_then (bw_drew (bw_refl _)) Bb
    have H0:=bw_then (bw_alloc (.cells #[.int .i64 (rp l j).id,.int .i64 (rp l j).src,.int .i64 (rp l j).dst,.int .i64 (rp l j).cls,.int .i64 (rp l j).len] 38) HB) Bb
    have hbx:w1.cell? ⟨wr.heap.size,4,none⟩=some (.int .i64 (rp l j).len):=(Box.below (Box.new wr _ _ _ rfl) Bb).get 4
    have HO9:=Kd.R_below HO (bw_then (bw_alloc _ (bw_refl wr)) Bb)
    have hwz:wr.heap.size<w1.heap.size:=by have:=(bcell Bb).2.2;simp only[szs] at this;omega
    have HW9:=HOL
    clear HOL hr1 hk1
    repeat (first|clear Ca|clear Fa|clear Za|clear Ba|clear hb9|clear Cb|clear Fb|clear Zb|clear Bb|clear Ya|clear Yb|clear Yc|clear Yd|clear hap|clear HOm|clear HOa|clear HOb|clear HOp|clear hlm|clear hla|clear hlb|clear hlp|clear hCm|clear hCa|clear hCb|clear hCp|clear Am|clear Aa|clear Ab|clear Ap|clear cm|clear ca|clear cb|clear cp|clear w1)
    obtain⟨w5,rfl⟩:∃ x,x=w1:=⟨_,rfl⟩
    go_wp2
    go_loopw [35] (fun i wi=>∃ (ch:Nat) (y:List Int),i=.int .i64 ch∧ch≤4*N∧Hid (y.length=4*N)∧Hid (∀ q:Nat,q<ch→ri y q=loadAt m pa pb (l.take (j+1)) q)∧Hid (∀ q:Nat,ch≤q→q<4*N→ri y q=loadAt m pa pb (l.take j) q)∧Kd.R (Kd.int .i64) 3 wi ((w.alloc (.cells #[.int .i64 m.g.w,.int .i64 m.g.h,.slice A m.br.length c] 28)).alloc (.cells #[.slice B pa.length d,.slice C pb.length k] 32)).heap.size (fun _=>True) (.slice (some ⟨g,0,none⟩) (4*N) cap) y∧Kd.R (Kd.int .i64) 3 wi (wr.heap.size+1) (fun _=>True) (.slice A1 wl.length c1) wl∧wi.cell? ⟨wr.heap.size,4,none⟩=some (.int .i64 (rp l j).len)∧wr.heap.size<wi.heap.size∧Below ((w.alloc (.cells #[.int .i64 m.g.w,.int .i64 m.g.h,.slice A m.br.length c] 28)).alloc (.cells #[.slice B pa.length d,.slice C pb.length k] 32)).heap.size ((w.alloc (.cells #[.int .i64 m.g.w,.int .i64 m.g.h,.slice A m.br.length c] 28)).alloc (.cells #[.slice B pa.length d,.slice C pb.length k] 32)) wi) (fun i _=>4*N - (intOf i).toNat)
    case atStart=>exact⟨0,x,rfl,Nat.zero_le _,HL,Lib.hid fun q h=>absurd h (Nat.not_lt_zero _),Lib.hid fun q _ h=>HA.out q h,HO9,HW9,hbx,hwz,H0⟩
    case round=>
     clear HO9 HW9 hbx hwz H0
     obtain⟨ch,y,rfl,hch,HLy,HP,HQ,HOy,HWy,hbx,hwz,HBy⟩:=hrel
     by_cases hlt2:ch<4*N
     ·obtain⟨hx9,hf9⟩:=rowI_cell HOy ch hlt2
      obtain⟨_,hlw,hCw⟩:=Kd.R_row HWy
      obtain⟨v0,v1⟩:=loadAt_range (pa:=pa) (pb:=pb) HALL.out ch j hj
      have hv:=HQ.out ch (Nat.le_refl _) hlt2
      rw[←hv] at v0 v1
      have HV:=Lib.hid hv
      clear hv
      cases hh:has wl ch
      ·go_wp2_with (go_at_call 62;refine(slices_Contains_int wl ch A1 c1 _ hCw (by omega)).mono ?_;rintro e w' ⟨rfl,rfl⟩)
       go_roundw
       case rel=>exact⟨ch+1,y,by go_num,by omega,HLy,Lib.hid (upto HP.out (by rw[HV.out,loadAt_take m pa pb l j hlt,HAD.out,hh];simp)),Lib.hid (fun q h1 h2=>HQ.out q (by omega) h2),HOy,HWy,hbx,hwz,HBy⟩
       case measure=>simp[intOf];omega
      ·go_wp2_with (go_at_call 62;refine(slices_Contains_int wl ch A1 c1 _ hCw (by omega)).mono ?_;rintro e w' ⟨rfl,rfl⟩)
       have i0:(0:Int)≤(ch:Int):=by omega
       have i1:(ch:Int)<((4*N:Nat):Int):=by omega
       go_region
       go_wp2
       go_roundw
       case rel=>exact⟨ch+1,y.set ch (ri y ch+(rp l j).len),by go_num,by omega,Lib.hid (by rw[List.length_set];exact HLy.out),Lib.hid (upto (fun q hq=>by rw[set_get (by have:=HLy.out;omega) q (by have:=HLy.out;omega),if_neg (by omega)];exact HP.out q hq) (by rw[set_get (by have:=HLy.out;omega) ch (by have:=HLy.out;omega),if_pos rfl,HV.out,loadAt_take m pa pb l j hlt,HAD.out,hh];simp)),Lib.hid (fun q h1 h2=>by rw[set_get (by have:=HLy.out;omega) q (by have:=HLy.out;omega),if_neg (by omega)];exact HQ.out q (by omega) h2),rowI_set HOy ch _,R_off HWy (by omega) _ _,by go_simp,by simpa only [szs] using hwz,(by have HGO:=HGB.out;first|exact bw_set _ (by exact bel) HGO|exact bw_drew (bw_set _ (by exact bel) HGO))⟩
       case measure=>simp[intOf];omega
     ·go_wp2
      go_roundw
      case rel=>exact⟨j+1,y,by go_num,by omega,HLy,Lib.hid (fun q h=>HP.out q (by omega)),HOy,HBy⟩
      case measure=>simp[intOf];omega
   ·have e1:((rp l j).cls == 1)=false:=beq_eq_false_iff_ne.2 hcl
    rw[tabOf,if_neg hcl] at hwl
    have HAD:∀ ch:Int,addsTo m pa pb (rp l j) ch=if has (wt m pa (rp l j).src (rp l j).dst) ch then (rp l j).len else 0:=fun ch=>by rw[addsTo,walkP,tabOf,if_neg hcl]
    have HAD:=Lib.hid HAD
    clear hcl
    generalize hwe:wt m pa (rp l j).src (rp l j).dst=wl at hwl HAD
    have HWE:=Lib.hid hwe
    clear hwe
    go_wp2_with fail
    go_region_held3 (fun w'=>Below (wr.alloc (.cells #[.int .i64 (rp l j).id,.int .i64 (rp l j).src,.int .i64 (rp l j).dst,.int .i64 (rp l j).cls,.int .i64 (rp l j).len] 38)).heap.size (wr.alloc (.cells #[.int .i64 (rp l j).id,.int .i64 (rp l j).src,.int .i64 (rp l j).dst,.int .i64 (rp l j).cls,.int .i64 (rp l j).len] 38)) w'∧∀ bq oq,bq<(wr.alloc (.cells #[.int .i64 (rp l j).id,.int .i64 (rp l j).src,.int .i64 (rp l j).dst,.int .i64 (rp l j).cls,.int .i64 (rp l j).len] 38)).heap.size→w'.cell? ⟨bq,oq,none⟩=(wr.alloc (.cells #[.int .i64 (rp l j).id,.int .i64 (rp l j).src,.int .i64 (rp l j).dst,.int .i64 (rp l j).cls,.int .i64 (rp l j).len] 38)).cell? ⟨bq,oq,none⟩) (first|exact far_of bel) ( first|(go_at_call 45;refine(impl_tableFor_a pa pb B C d k _ e1 _).mono ?_;rintro e w1 ⟨rfl,Ba⟩;obtain⟨Ca,Fa,Za⟩:=bcell Ba;(try simp only[szs] at Za);have Bb:=far2;obtain⟨Cb,Fb,Zb⟩:=bcell Bb;(try simp only[szs] at Zb);try (first|obtain⟨Ya,Yb,Yc,Yd⟩:=lts4 Zb|obtain⟨Ya,Yb,Yc⟩:=lts3 Zb|obtain⟨Ya,Yb⟩:=lts2 Zb|have Ya:=lts1 Zb);have hb9:=Ba)|(go_at_call 44;refine(impl_WalkTable m pa (rp l j).src (rp l j).dst A B _ _ _ (by exact Kd.C_below hr bel) hn (by exact Kd.C_below ha bel) hka).mono ?_;rintro e w1 ⟨hg1,Ba⟩;rw[HWE.out] at hg1;obtain⟨v1,rfl,HO1⟩:=hg1;obtain⟨A1,c1,rfl,hk1,hr1⟩:=Kd.R_reads HO1;have HOL:=Kd.R_lower (base':=(wr.alloc (.cells #[.int .i64 (rp l j).id,.int .i64 (rp l j).src,.int .i64 (rp l j).dst,.int .i64 (rp l j).cls,.int .i64 (rp l j).len] 38)).heap.size) HO1 (bw_size bel);simp only[szs] at HOL;clear HO1;obtain⟨Ca,Fa,Za⟩:=bcell Ba;(try simp only[szs] at Za);have Bb:=far2;obtain⟨Cb,Fb,Zb⟩:=bcell Bb;(try simp only[szs] at Zb);try (first|obtain⟨Ya,Yb,Yc,Yd⟩:=lts4 Zb|obtain⟨Ya,Yb,Yc⟩:=lts3 Zb|obtain⟨Ya,Yb⟩:=lts2 Zb|have Ya:=lts1 Zb);have hb9:=Ba))
    have Bb:Below (wr.alloc (.cells #[.int .i64 (rp l j).id,.int .i64 (rp l j).src,.int .i64 (rp l j).dst,.int .i64 (rp l j).cls,.int .i64 (rp l j).len] 38)).heap.size (wr.alloc (.cells #[.int .i64 (rp l j).id,.int .i64 (rp l j).src,.int .i64 (rp l j).dst,.int .i64 (rp l j).cls,.int .i64 (rp l j).len] 38)) w1:=by first|exact Bb|exact bw_then (bw_drew (bw_refl _)) Bb
    have H0:=bw_then (bw_alloc (.cells #[.int .i64 (rp l j).id,.int .i64 (rp l j).src,.int .i64 (rp l j).dst,.int .i64 (rp l j).cls,.int .i64 (rp l j).len] 38) HB) Bb
    have hbx:w1.cell? ⟨wr.heap.size,4,none⟩=some (.int .i64 (rp l j).len):=(Box.below (Box.new wr _ _ _ rfl) Bb).get 4
    have HO9:=Kd.R_below HO (bw_then (bw_alloc _ (bw_refl wr)) Bb)
    have hwz:wr.heap.size<w1.heap.size:=by have:=(bcell Bb).2.2;simp only[szs] at this;omega
    have HW9:=HOL
    clear HOL hr1 hk1
    repeat (first|clear Ca|clear Fa|clear Za|clear Ba|clear hb9|clear Cb|clear Fb|clear Zb|clear Bb|clear Ya|clear Yb|clear Yc|clear Yd|clear hap|clear HOm|clear HOa|clear HOb|clear HOp|clear hlm|clear hla|clear hlb|clear hlp|clear hCm|clear hCa|clear hCb|clear hCp|clear Am|clear Aa|clear Ab|clear Ap|clear cm|clear ca|clear cb|clear cp|clear w1)
    obtain⟨w5,rfl⟩:∃ x,x=w1:=⟨_,rfl⟩
    go_wp2
    go_loopw [35] (fun i wi=>∃ (ch:Nat) (y:List Int),i=.int .i64 ch∧ch≤4*N∧Hid (y.length=4*N)∧Hid (∀ q:Nat,q<ch→ri y q=loadAt m pa pb (l.take (j+1)) q)∧Hid (∀ q:Nat,ch≤q→q<4*N→ri y q=loadAt m pa pb (l.take j) q)∧Kd.R (Kd.int .i64) 3 wi ((w.alloc (.cells #[.int .i64 m.g.w,.int .i64 m.g.h,.slice A m.br.length c] 28)).alloc (.cells #[.slice B pa.length d,.slice C pb.length k] 32)).heap.size (fun _=>True) (.slice (some ⟨g,0,none⟩) (4*N) cap) y∧Kd.R (Kd.int .i64) 3 wi (wr.heap.size+1) (fun _=>True) (.slice A1 wl.length c1) wl∧wi.cell? ⟨wr.heap.size,4,none⟩=some (.int .i64 (rp l j).len)∧wr.heap.size<wi.heap.size∧Below ((w.alloc (.cells #[.int .i64 m.g.w,.int .i64 m.g.h,.slice A m.br.length c] 28)).alloc (.cells #[.slice B pa.length d,.slice C pb.length k] 32)).heap.size ((w.alloc (.cells #[.int .i64 m.g.w,.int .i64 m.g.h,.slice A m.br.length c] 28)).alloc (.cells #[.slice B pa.length d,.slice C pb.length k] 32)) wi) (fun i _=>4*N - (intOf i).toNat)
    case atStart=>exact⟨0,x,rfl,Nat.zero_le _,HL,Lib.hid fun q h=>absurd h (Nat.not_lt_zero _),Lib.hid fun q _ h=>HA.out q h,HO9,HW9,hbx,hwz,H0⟩
    case round=>
     clear HO9 HW9 hbx hwz H0
     obtain⟨ch,y,rfl,hch,HLy,HP,HQ,HOy,HWy,hbx,hwz,HBy⟩:=hrel
     by_cases hlt2:ch<4*N
     ·obtain⟨hx9,hf9⟩:=rowI_cell HOy ch hlt2
      obtain⟨_,hlw,hCw⟩:=Kd.R_row HWy
      obtain⟨v0,v1⟩:=loadAt_range (pa:=pa) (pb:=pb) HALL.out ch j hj
      have hv:=HQ.out ch (Nat.le_refl _) hlt2
      rw[←hv] at v0 v1
      have HV:=Lib.hid hv
      clear hv
      cases hh:has wl ch
      ·go_wp2_with (go_at_call 62;refine(slices_Contains_int wl ch A1 c1 _ hCw (by omega)).mono ?_;rintro e w' ⟨rfl,rfl⟩)
       go_roundw
       case rel=>exact⟨ch+1,y,by go_num,by omega,HLy,Lib.hid (upto HP.out (by rw[HV.out,loadAt_take m pa pb l j hlt,HAD.out,hh];simp)),Lib.hid (fun q h1 h2=>HQ.out q (by omega) h2),HOy,HWy,hbx,hwz,HBy⟩
       case measure=>simp[intOf];omega
      ·go_wp2_with (go_at_call 62;refine(slices_Contains_int wl ch A1 c1 _ hCw (by omega)).mono ?_;rintro e w' ⟨rfl,rfl⟩)
       have i0:(0:Int)≤(ch:Int):=by omega
       have i1:(ch:Int)<((4*N:Nat):Int):=by omega
       go_region
       go_wp2
       go_roundw
       case rel=>exact⟨ch+1,y.set ch (ri y ch+(rp l j).len),by go_num,by omega,Lib.hid (by rw[List.length_set];exact HLy.out),Lib.hid (upto (fun q hq=>by rw[set_get (by have:=HLy.out;omega) q (by have:=HLy.out;omega),if_neg (by omega)];exact HP.out q hq) (by rw[set_get (by have:=HLy.out;omega) ch (by have:=HLy.out;omega),if_pos rfl,HV.out,loadAt_take m pa pb l j hlt,HAD.out,hh];simp)),Lib.hid (fun q h1 h2=>by rw[set_get (by have:=HLy.out;omega) q (by have:=HLy.out;omega),if_neg (by omega)];exact HQ.out q (by omega) h2),rowI_set HOy ch _,R_off HWy (by omega) _ _,by go_simp,by simpa only [szs] using hwz,(by have HGO:=HGB.out;first|exact bw_set _ (by exact bel) HGO|exact bw_drew (bw_set _ (by exact bel) HGO))⟩
       case measure=>simp[intOf];omega
     ·go_wp2
      go_roundw
      case rel=>exact⟨j+1,y,by go_num,by omega,HLy,Lib.hid (fun q h=>HP.out q (by omega)),HOy,HBy⟩
      case measure=>simp[intOf];omega
  ·go_wp2
   go_ret
   have hje:j=l.length:=by omega
   subst hje
   refine⟨?_,bel⟩
   have e:x=loadsL m pa pb l:=loadsL_of (by rw[HL.out,HCH.out]) (fun ch h=>by rw[HCH.out] at h;rw[HA.out ch h,List.take_length])
   subst e
   exact⟨_,rfl,Kd.R_lower HO (by simp only[szs];omega)⟩

set_option maxHeartbeats 1000000 in
set_option maxRecDepth 100000 in
theorem impl_TotalHops (m:Mesh) (pa pb:List Int) (l:List Packet) (A B C D:Option Addr) (c d k n:Nat) (w:World) (hr:Kd.C (Kd.int .i64) w A m.br.length m.br) (hn:m.br.length≤2097152) (ha:Kd.C (Kd.int .i64) w B pa.length pa) (hka:pa.length≤2097152) (hb:Kd.C (Kd.int .i64) w C pb.length pb) (hkb:pb.length≤2097152) (hp:kP.C w D l.length l) (hkl:l.length≤2097152) :
    Calls Tryz.prog 12 #[.agg #[.int .i64 m.g.w,.int .i64 m.g.h,.slice A m.br.length c],.agg #[.slice B pa.length d,.slice C pb.length k],.slice D l.length n] w fun e w'=>e=.returned (.int .i64 (totalHops m pa pb l))∧Below w.heap.size w w':=by
  go_enter Tryz.func12,Tryz.ntmps12
  cases h1:arePk m pa pb l
  · go_wp2_with (go_at_call 49;refine(impl_arePackets m pa pb l _ _ _ _ _ _ _ _ _ (by exact Kd.C_below hr bel) hn (by exact Kd.C_below ha bel) hka (by exact Kd.C_below hb bel) hkb (by exact Kd.C_below hp bel) hkl).mono ?_;rintro e w1 ⟨rfl,Ba⟩;obtain⟨Ca,Fa,Za⟩:=bcell Ba;(try simp only[szs] at Za);have Bb:=far2;obtain⟨Cb,Fb,Zb⟩:=bcell Bb;(try simp only[szs] at Zb);try (first|obtain⟨Ya,Yb,Yc,Yd⟩:=lts4 Zb|obtain⟨Ya,Yb,Yc⟩:=lts3 Zb|obtain⟨Ya,Yb⟩:=lts2 Zb|have Ya:=lts1 Zb);have hb9:=Ba)
    go_ret
    exact⟨ret_int (totalHops_no h1).symm,bel⟩
  have hpos:=arePk_count h1
  have hall:=(arePk_parts h1).2
  have HALL:=Lib.hid hall
  have HPOS:=Lib.hid hpos
  have HLO:=Lib.hid (loadsOf_yes h1)
  clear hall hpos
  have hll:=loadsOf_len m pa pb l
  have HRG:=Lib.hid (loadsOf_range m pa pb l hkl)
  have HSM:=Lib.hid (fun k hk=>sum_loads (m:=m) (pa:=pa) (pb:=pb) hkl k hk)
  have HMX:=Lib.hid (totalHops_yes h1)
  go_wp2_with (first|(go_at_call 49;refine(impl_arePackets m pa pb l _ _ _ _ _ _ _ _ _ (by exact Kd.C_below hr bel) hn (by exact Kd.C_below ha bel) hka (by exact Kd.C_below hb bel) hkb (by exact Kd.C_below hp bel) hkl).mono ?_;rintro e w1 ⟨rfl,Ba⟩;obtain⟨Ca,Fa,Za⟩:=bcell Ba;(try simp only[szs] at Za);have Bb:=far2;obtain⟨Cb,Fb,Zb⟩:=bcell Bb;(try simp only[szs] at Zb);try (first|obtain⟨Ya,Yb,Yc,Yd⟩:=lts4 Zb|obtain⟨Ya,Yb,Yc⟩:=lts3 Zb|obtain⟨Ya,Yb⟩:=lts2 Zb|have Ya:=lts1 Zb);have hb9:=Ba)|(go_at_call 50;refine(impl_loads m pa pb l _ _ _ _ _ _ _ _ _ (by exact Kd.C_below hr bel) hn (by exact Kd.C_below ha bel) hka (by exact Kd.C_below hb bel) hkb (by exact Kd.C_below hp bel) hkl HALL.out HPOS.out).mono ?_;rintro e w1 ⟨hg1,Ba⟩;rw[←HLO.out] at hg1;obtain⟨v1,rfl,HO1⟩:=hg1;obtain⟨A1,c1,rfl,hk1,hr1⟩:=Kd.R_reads HO1;obtain⟨Ca,Fa,Za⟩:=bcell Ba;(try simp only[szs] at Za);have Bb:=far2;obtain⟨Cb,Fb,Zb⟩:=bcell Bb;(try simp only[szs] at Zb);try (first|obtain⟨Ya,Yb,Yc,Yd⟩:=lts4 Zb|obtain⟨Ya,Yb,Yc⟩:=lts3 Zb|obtain⟨Ya,Yb⟩:=lts2 Zb|have Ya:=lts1 Zb);have hb9:=Ba))
  generalize hxs:loadsOf m pa pb l=xs at hll HRG HSM HMX hk1 hr1 ⊢
  clear hxs HO1
  obtain⟨wq,hwq⟩:∃ x,x=w1:=⟨_,rfl⟩
  subst hwq
  go_loopw [7,20] (fun v i wr=>∃ k:Nat,i=.int .i64 k∧v=.int .i64 (sumTo xs k)∧k≤xs.length∧Below wq.heap.size wq wr) (fun _ i _=>xs.length - (intOf i).toNat)
  case atStart=>exact⟨0,rfl,rfl,Nat.zero_le _,by first|exact bw_refl _|exact bw_drewN _ (bw_refl _)⟩
  case round=>
    obtain⟨k,rfl,rfl,hk,HBB⟩:=hrel
    obtain⟨hcI,hfI,hzI⟩:=bcell HBB
    by_cases hlt:k<xs.length
    · obtain⟨b,off,rfl,hbl,hx⟩:=rdI_at hr1 k hlt
      have hxk:=hx k hlt
      clear hx
      obtain⟨g0,g1⟩:=HRG.out k hlt
      obtain⟨t0,t1⟩:=HSM.out k hk
      have HS:=Lib.hid (sumTo_succ xs k hlt)
      go_wp2
      go_roundw
      case rel=>exact⟨k+1,by go_num,by rw[HS.out],by omega,bel⟩
      case measure=>simp[intOf];omega
    · go_wp2
      go_ret
      exact⟨ret_int (by rw[HMX.out,show k=xs.length by omega]),bw_then bel HBB⟩

theorem St0.drainfacts {g:Grid} {r s:Int} {l:List Packet} (h:St0 g r s l) (r3:r≤3) (s3:s≤3):∃ K:Nat,deliverN ⟨g,[]⟩ (makeT g r) (makeT g s) l=(K:Int)∧K≤240 ∧
    (∀ j:Nat,j<l.length→zeroLoad ⟨g,[]⟩ (makeT g r) (makeT g s) (rp l (j:Int))≤(K:Int)) ∧
    (K:Int)≤totalHops ⟨g,[]⟩ (makeT g r) (makeT g s) l+2*lenTo l l.length ∧
    (¬ l.length=0→0≤slowN ⟨g,[]⟩ (makeT g r) (makeT g s) l) ∧
    (∀ k:Nat,k≤l.length→0≤lenTo l k∧lenTo l k≤5*k) ∧
    (0≤totalHops ⟨g,[]⟩ (makeT g r) (makeT g s) l∧totalHops ⟨g,[]⟩ (makeT g r) (makeT g s) l≤85*l.length):=by
  obtain⟨K,e,hc,hk,hi⟩:=h.drains r3 s3
  have hd:=h.delivers r3 s3
  have hz:=h.slow (K:=K) (by omega) hi
  have ha:arePk ⟨g,[]⟩ (makeT g r) (makeT g s) l=true:=by
    unfold arePk
    rw[h.cls,Bool.true_and,List.all_eq_true]
    intro p hp
    obtain⟨i,hi,rfl⟩:=List.mem_iff_getElem.1 hp
    rw[←rp_get l i hi]
    exact h.pk i hi
  have ht:totalHops ⟨g,[]⟩ (makeT g r) (makeT g s) l=hopsTo ⟨g,[]⟩ (makeT g r) (makeT g s) l l.length:=by
    unfold totalHops
    rw[if_pos ha,←hops_sum _ _ _ _ (Nat.le_refl _),List.take_length]
  have hco:=cost_hops h.cls h.pk l.length (Nat.le_refl _)
  have hlen:∀ k:Nat,k≤l.length→0≤lenTo l k∧lenTo l k≤5*k:=by
    intro k
    induction k with
    | zero=>intro _;simp[lenTo]
    | succ k ih=>
      intro hk2
      have h1:=ih (by omega)
      have h2:=(packet_parts (h.pk k (by omega))).2.2.2.2
      rw[lenTo]
      push_cast
      omega
  have hhop:∀ k:Nat,k≤l.length→0≤hopsTo ⟨g,[]⟩ (makeT g r) (makeT g s) l k∧hopsTo ⟨g,[]⟩ (makeT g r) (makeT g s) l k≤85*k:=by
    intro k
    induction k with
    | zero=>intro _;simp[hopsTo]
    | succ k ih=>
      intro hk2
      have h1:=ih (by omega)
      have h2:=(packet_parts (h.pk k (by omega))).2.2.2.2
      have h3:=wt_len ⟨g,[]⟩ (tabOf (makeT g r) (makeT g s) (rp l k).cls) (rp l k).src (rp l k).dst
      rw[hopsTo]
      unfold walkP
      have h4:(rp l k).len*((wt ⟨g,[]⟩ (tabOf (makeT g r) (makeT g s) (rp l k).cls) (rp l k).src (rp l k).dst).length:Int)≤5*17:=Int.mul_le_mul h2.2 (by omega) (by omega) (by omega)
      have h5:0≤(rp l k).len*((wt ⟨g,[]⟩ (tabOf (makeT g r) (makeT g s) (rp l k).cls) (rp l k).src (rp l k).dst).length:Int):=Int.mul_nonneg (by omega) (by omega)
      push_cast
      omega
  refine⟨K,by rw[hd,e],hk,hz,by rw[ht];omega,fun hne=>?_,hlen,by rw[ht];exact hhop _ (Nat.le_refl _)⟩
  have hs:∀ k:Nat,k≤l.length→slowTo ⟨g,[]⟩ (makeT g r) (makeT g s) l k≤(K:Int):=by
    intro k
    induction k with
    | zero=>intro _;show (0:Int)≤K;omega
    | succ k ih=>
      intro hk2
      have h1:=ih (by omega)
      have h2:=hz k (by omega)
      rw[slowTo]
      omega
  unfold slowN
  rw[hd,e,if_neg (by omega)]
  have:=hs _ (Nat.le_refl _)
  omega
end Go.Proofs.YtodbglncccgdbaaGreat
namespace Go.Proofs.YtodbglncccgdbaaGreat
open Go.ChangeShapes Go.WideShapes Go.ChangeAt Go.RowKit Go.Proofs.YtodbglncccgdbaaGreatW.PrintWords
open NoC
section
variable {H:Type} {enc:TypeId × Value→H} {W:World} {base:Nat} {spare:Nat→Bool} {held:Bool} {fuel:Nat} {cs:List Value} {x:DataW H × List MemPlace}
def Light (t:TypeId) (d:DataW H):Prop:=∀ n∈d.weights Tryz.prog t,n≤reachBytes
theorem light_arg {ts:List TypeId} {ds:List (DataW H)} (h:(DataW.weightsEach Tryz.prog ts ds).all (·≤reachBytes)=true) {j:Nat} {t:TypeId} {d:DataW H} (ht:ts[j]?=some t) (hd:ds[j]?=some d):Light t d:=
  fun n hn=>by simpa using List.all_eq_true.1 h n (DataW.weights_mem_each ht hd n hn)
end
section
variable {H:Type} {enc:TypeId × Value→H} {W:World} {base:Nat} {spare:Nat→Bool} {held:Bool} {fuel:Nat} {cs:List Value} {x:DataW H × List MemPlace}
end
section
variable {H:Type} {enc:TypeId × Value→H} {W:World} {base:Nat} {spare:Nat→Bool} {held:Bool} {fuel:Nat} {cs:List Value} {x:DataW H × List MemPlace}
theorem op_bytes (h:DataW.trod enc Tryz.prog W base spare held fuel 22 cs=some x) (hl:Light 22 x.1) :
    ∃ A c N,cs=[.slice A N c]∧Byt W A N:=by
  rcases open_ints Tryz.underlying22 Tryz.underlying5 (by kernel_rfl) h with ⟨rfl,_⟩|⟨a,len,cap,zs,rfl,_,hle,hm,hz,hx,hc,_⟩
  · exact⟨none,0,0,rfl,by decide,fun n h=>absurd h (Nat.not_lt_zero _)⟩
  · have hlen:len≤zs.length:=by rw[hz];split <;> omega
    have e:(zs.take len).length=len:=by rw[List.length_take,Nat.min_eq_left hlen]
    have hb:len*1≤140737488351232:=by
      subst hx
      have z:=hl _ (by unfold DataW.weights;rw[show Tryz.prog.underlying 22=_ from Tryz.underlying22];exact List.mem_cons_self)
      rw[show Tryz.prog.bytesOf 5=1 by kernel_rfl] at z
      have hr:reachBytes=140737488351232:=by decide
      have h1:(lits (H:=H) .u8 (zs.take len)).length=len:=by simp[lits,hlen]
      rw[h1] at z
      omega
    have hC:Kd.C (Kd.int .u8) W (some a) (zs.take len).length (zs.take len):=by
      refine⟨rfl,by rw[e];omega,fun _=>⟨a,rfl,?_⟩⟩
      intro j p hj
      refine⟨[.int .u8 p],rfl,rfl,?_⟩
      intro i u hi
      obtain⟨rfl,rfl⟩:i=0∧u=.int .u8 p:=by
        cases i with
        | zero=>simp at hi;exact⟨rfl,hi.symm⟩
        | succ i=>simp at hi
      have hj2:=List.getElem?_eq_some_iff.1 hj
      obtain⟨hj3,hj4⟩:=hj2
      have hj5:j<zs.length:=by omega
      have:=hc j hj5
      rw[show j*(Kd.int .u8).sz+0=j by show j*1+0=j;omega,this]
      rw[List.getElem_take] at hj4
      simp[hj5,hj4]
    refine⟨some a,cap,len,rfl,by omega,fun n hn=>?_⟩
    obtain⟨B,off,ha,hB,hcell⟩:=rdU_at hC n (by omega)
    exact⟨B,off,_,ha,hB,hcell n (by omega)⟩
end
end Go.Proofs.YtodbglncccgdbaaGreat
