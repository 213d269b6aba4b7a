/- Lemmas for laws of this seat, for all inputs: Load FlOk Cp CpL. -/
import Derived.Test.YtodbglncccgdbaaGreatQ6
import Derived.Test.YtodbglncccgdbaaGreatQ1
import Derived.Test.YtodbglncccgdbaaGreatQ3
set_option linter.unusedVariables false
set_option linter.unusedSimpArgs false
namespace Go.Proofs.YtodbglncccgdbaaGreat
open Go.RowKit Go.Proofs.YtodbglncccgdbaaGreatW.PrintWords
open NoC
theorem impl_PacketOk (g:Grid) (p:Packet) (w:World):Calls Tryz.prog 43 #[.agg #[.int .i64 g.w,.int .i64 g.h],.agg #[.int .i64 p.id,.int .i64 p.src,.int .i64 p.dst,.int .i64 p.cls,.int .i64 p.len]] w fun e w'=>e=.returned (.bool (packetOk g p))∧Below w.heap.size w w':=by
  go_enter Tryz.func43,Tryz.ntmps43
  cases h1:inside p.id 1 9999
  · go_wp2_with (first|(go_at_call 68;refine(impl_inside _ _ _ _).mono ?_;rintro e w' ⟨rfl,rfl⟩)|(go_at_call 98;refine(impl_isNode g _ _).mono ?_;rintro e w1 ⟨rfl,Ba⟩;obtain⟨Ca,Fa,Za⟩:=bcell Ba;(try simp only[szs] at Za);have Bb:=far2;obtain⟨Cb,Fb,Zb⟩:=bcell Bb;(try simp only[szs] at Zb);try (first|obtain⟨Ya,Yb,Yc,Yd⟩:=lts4 Zb|obtain⟨Ya,Yb,Yc⟩:=lts3 Zb|obtain⟨Ya,Yb⟩:=lts2 Zb|have Ya:=lts1 Zb);have hb9:=Ba))
    go_ret
    exact⟨ret_bool (by simp[packetOk,h1]),bel⟩
  cases h2:isNode g p.src
  · go_wp2_with (first|(go_at_call 68;refine(impl_inside _ _ _ _).mono ?_;rintro e w' ⟨rfl,rfl⟩)|(go_at_call 98;refine(impl_isNode g _ _).mono ?_;rintro e w1 ⟨rfl,Ba⟩;obtain⟨Ca,Fa,Za⟩:=bcell Ba;(try simp only[szs] at Za);have Bb:=far2;obtain⟨Cb,Fb,Zb⟩:=bcell Bb;(try simp only[szs] at Zb);try (first|obtain⟨Ya,Yb,Yc,Yd⟩:=lts4 Zb|obtain⟨Ya,Yb,Yc⟩:=lts3 Zb|obtain⟨Ya,Yb⟩:=lts2 Zb|have Ya:=lts1 Zb);have hb9:=Ba))
    go_ret
    exact⟨ret_bool (by simp[packetOk,h2]),bel⟩
  cases h3:isNode g p.dst
  · go_wp2_with (first|(go_at_call 68;refine(impl_inside _ _ _ _).mono ?_;rintro e w' ⟨rfl,rfl⟩)|(go_at_call 98;refine(impl_isNode g _ _).mono ?_;rintro e w1 ⟨rfl,Ba⟩;obtain⟨Ca,Fa,Za⟩:=bcell Ba;(try simp only[szs] at Za);have Bb:=far2;obtain⟨Cb,Fb,Zb⟩:=bcell Bb;(try simp only[szs] at Zb);try (first|obtain⟨Ya,Yb,Yc,Yd⟩:=lts4 Zb|obtain⟨Ya,Yb,Yc⟩:=lts3 Zb|obtain⟨Ya,Yb⟩:=lts2 Zb|have Ya:=lts1 Zb);have hb9:=Ba))
    go_ret
    exact⟨ret_bool (by simp[packetOk,h3]),bel⟩
  by_cases h4:p.src=p.dst
  · have e4:(p.src != p.dst)=false:=bne_eq_false_iff_eq.2 h4
    have H4:=Lib.hid h4
    clear h4
    go_wp2_with (first|(go_at_call 68;refine(impl_inside _ _ _ _).mono ?_;rintro e w' ⟨rfl,rfl⟩)|(go_at_call 98;refine(impl_isNode g _ _).mono ?_;rintro e w1 ⟨rfl,Ba⟩;obtain⟨Ca,Fa,Za⟩:=bcell Ba;(try simp only[szs] at Za);have Bb:=far2;obtain⟨Cb,Fb,Zb⟩:=bcell Bb;(try simp only[szs] at Zb);try (first|obtain⟨Ya,Yb,Yc,Yd⟩:=lts4 Zb|obtain⟨Ya,Yb,Yc⟩:=lts3 Zb|obtain⟨Ya,Yb⟩:=lts2 Zb|have Ya:=lts1 Zb);have hb9:=Ba))
    go_ret
    exact⟨ret_bool (by simp[packetOk,H4.out]),bel⟩
  have e4:(p.src != p.dst)=true:=bne_iff_ne.2 h4
  have H4:=Lib.hid h4
  clear h4
  cases h5:inside p.cls 0 1
  · go_wp2_with (first|(go_at_call 68;refine(impl_inside _ _ _ _).mono ?_;rintro e w' ⟨rfl,rfl⟩)|(go_at_call 98;refine(impl_isNode g _ _).mono ?_;rintro e w1 ⟨rfl,Ba⟩;obtain⟨Ca,Fa,Za⟩:=bcell Ba;(try simp only[szs] at Za);have Bb:=far2;obtain⟨Cb,Fb,Zb⟩:=bcell Bb;(try simp only[szs] at Zb);try (first|obtain⟨Ya,Yb,Yc,Yd⟩:=lts4 Zb|obtain⟨Ya,Yb,Yc⟩:=lts3 Zb|obtain⟨Ya,Yb⟩:=lts2 Zb|have Ya:=lts1 Zb);have hb9:=Ba))
    go_ret
    exact⟨ret_bool (by simp[packetOk,h5]),bel⟩
  · go_wp2_with (first|(go_at_call 68;refine(impl_inside _ _ _ _).mono ?_;rintro e w' ⟨rfl,rfl⟩)|(go_at_call 98;refine(impl_isNode g _ _).mono ?_;rintro e w1 ⟨rfl,Ba⟩;obtain⟨Ca,Fa,Za⟩:=bcell Ba;(try simp only[szs] at Za);have Bb:=far2;obtain⟨Cb,Fb,Zb⟩:=bcell Bb;(try simp only[szs] at Zb);try (first|obtain⟨Ya,Yb,Yc,Yd⟩:=lts4 Zb|obtain⟨Ya,Yb,Yc⟩:=lts3 Zb|obtain⟨Ya,Yb⟩:=lts2 Zb|have Ya:=lts1 Zb);have hb9:=Ba))
    go_ret
    exact⟨ret_bool (by simp[packetOk,h1,h2,h3,H4.out,h5]),bel⟩

theorem spec_PacketOk (g:Grid) (p:Packet) (w:World):Calls Tryz.prog 168 #[.agg #[.int .i64 g.w,.int .i64 g.h],.agg #[.int .i64 p.id,.int .i64 p.src,.int .i64 p.dst,.int .i64 p.cls,.int .i64 p.len]] w fun e w'=>e=.returned (.bool (packetOk g p))∧Below w.heap.size w w':=by
  go_enter Tryz.func168,Tryz.ntmps168
  cases h1:inside p.id 1 9999
  · go_wp2_with (first|(go_at_call 148;refine(spec_l01In _ _ _ _).mono ?_;rintro e w' ⟨rfl,rfl⟩)|(go_at_call 193;refine(spec_l02Has g _ _).mono ?_;rintro e w1 ⟨rfl,Ba⟩;obtain⟨Ca,Fa,Za⟩:=bcell Ba;(try simp only[szs] at Za);have Bb:=far2;obtain⟨Cb,Fb,Zb⟩:=bcell Bb;(try simp only[szs] at Zb);try (first|obtain⟨Ya,Yb,Yc,Yd⟩:=lts4 Zb|obtain⟨Ya,Yb,Yc⟩:=lts3 Zb|obtain⟨Ya,Yb⟩:=lts2 Zb|have Ya:=lts1 Zb);have hb9:=Ba))
    go_ret
    exact⟨ret_bool (by simp[packetOk,h1]),bel⟩
  cases h2:isNode g p.src
  · go_wp2_with (first|(go_at_call 148;refine(spec_l01In _ _ _ _).mono ?_;rintro e w' ⟨rfl,rfl⟩)|(go_at_call 193;refine(spec_l02Has g _ _).mono ?_;rintro e w1 ⟨rfl,Ba⟩;obtain⟨Ca,Fa,Za⟩:=bcell Ba;(try simp only[szs] at Za);have Bb:=far2;obtain⟨Cb,Fb,Zb⟩:=bcell Bb;(try simp only[szs] at Zb);try (first|obtain⟨Ya,Yb,Yc,Yd⟩:=lts4 Zb|obtain⟨Ya,Yb,Yc⟩:=lts3 Zb|obtain⟨Ya,Yb⟩:=lts2 Zb|have Ya:=lts1 Zb);have hb9:=Ba))
    go_ret
    exact⟨ret_bool (by simp[packetOk,h2]),bel⟩
  cases h3:isNode g p.dst
  · go_wp2_with (first|(go_at_call 148;refine(spec_l01In _ _ _ _).mono ?_;rintro e w' ⟨rfl,rfl⟩)|(go_at_call 193;refine(spec_l02Has g _ _).mono ?_;rintro e w1 ⟨rfl,Ba⟩;obtain⟨Ca,Fa,Za⟩:=bcell Ba;(try simp only[szs] at Za);have Bb:=far2;obtain⟨Cb,Fb,Zb⟩:=bcell Bb;(try simp only[szs] at Zb);try (first|obtain⟨Ya,Yb,Yc,Yd⟩:=lts4 Zb|obtain⟨Ya,Yb,Yc⟩:=lts3 Zb|obtain⟨Ya,Yb⟩:=lts2 Zb|have Ya:=lts1 Zb);have hb9:=Ba))
    go_ret
    exact⟨ret_bool (by simp[packetOk,h3]),bel⟩
  by_cases h4:p.src=p.dst
  · have e4:(p.src != p.dst)=false:=bne_eq_false_iff_eq.2 h4
    have H4:=Lib.hid h4
    clear h4
    go_wp2_with (first|(go_at_call 148;refine(spec_l01In _ _ _ _).mono ?_;rintro e w' ⟨rfl,rfl⟩)|(go_at_call 193;refine(spec_l02Has g _ _).mono ?_;rintro e w1 ⟨rfl,Ba⟩;obtain⟨Ca,Fa,Za⟩:=bcell Ba;(try simp only[szs] at Za);have Bb:=far2;obtain⟨Cb,Fb,Zb⟩:=bcell Bb;(try simp only[szs] at Zb);try (first|obtain⟨Ya,Yb,Yc,Yd⟩:=lts4 Zb|obtain⟨Ya,Yb,Yc⟩:=lts3 Zb|obtain⟨Ya,Yb⟩:=lts2 Zb|have Ya:=lts1 Zb);have hb9:=Ba))
    go_ret
    exact⟨ret_bool (by simp[packetOk,H4.out]),bel⟩
  have e4:(p.src != p.dst)=true:=bne_iff_ne.2 h4
  have H4:=Lib.hid h4
  clear h4
  cases h5:inside p.cls 0 1
  · go_wp2_with (first|(go_at_call 148;refine(spec_l01In _ _ _ _).mono ?_;rintro e w' ⟨rfl,rfl⟩)|(go_at_call 193;refine(spec_l02Has g _ _).mono ?_;rintro e w1 ⟨rfl,Ba⟩;obtain⟨Ca,Fa,Za⟩:=bcell Ba;(try simp only[szs] at Za);have Bb:=far2;obtain⟨Cb,Fb,Zb⟩:=bcell Bb;(try simp only[szs] at Zb);try (first|obtain⟨Ya,Yb,Yc,Yd⟩:=lts4 Zb|obtain⟨Ya,Yb,Yc⟩:=lts3 Zb|obtain⟨Ya,Yb⟩:=lts2 Zb|have Ya:=lts1 Zb);have hb9:=Ba))
    go_ret
    exact⟨ret_bool (by simp[packetOk,h5]),bel⟩
  · go_wp2_with (first|(go_at_call 148;refine(spec_l01In _ _ _ _).mono ?_;rintro e w' ⟨rfl,rfl⟩)|(go_at_call 193;refine(spec_l02Has g _ _).mono ?_;rintro e w1 ⟨rfl,Ba⟩;obtain⟨Ca,Fa,Za⟩:=bcell Ba;(try simp only[szs] at Za);have Bb:=far2;obtain⟨Cb,Fb,Zb⟩:=bcell Bb;(try simp only[szs] at Zb);try (first|obtain⟨Ya,Yb,Yc,Yd⟩:=lts4 Zb|obtain⟨Ya,Yb,Yc⟩:=lts3 Zb|obtain⟨Ya,Yb⟩:=lts2 Zb|have Ya:=lts1 Zb);have hb9:=Ba))
    go_ret
    exact⟨ret_bool (by simp[packetOk,h1,h2,h3,H4.out,h5]),bel⟩

theorem impl_ClassesOk (m:Mesh) (pa pb:List Int) (A B C:Option Addr) (c d k:Nat) (w:World) (hr:Kd.C (Kd.int .i64) w A m.br.length m.br) (hn:m.br.length≤2097152) (ha:Kd.C (Kd.int .i64) w B pa.length pa) (hka:pa.length≤2097152) (hb:Kd.C (Kd.int .i64) w C pb.length pb) (hkb:pb.length≤2097152) :
    Calls Tryz.prog 42 #[.agg #[.int .i64 m.g.w,.int .i64 m.g.h,.slice A m.br.length c],.agg #[.slice B pa.length d,.slice C pb.length k]] w fun e w'=>e=.returned (.bool (classesOk m pa pb))∧Below w.heap.size w w':=by
  go_enter Tryz.func42,Tryz.ntmps42
  cases h1:tableOk m pa
  · go_wp2_with (first|(go_at_call 97;refine(impl_TableOk m pa A B _ _ _ (by exact Kd.C_below hr bel) hn (by exact Kd.C_below ha bel) hka).mono ?_;rintro e w1 ⟨rfl,Ba⟩;obtain⟨Ca,Fa,Za⟩:=bcell Ba;(try simp only[szs] at Za);have Bb:=far2;obtain⟨Cb,Fb,Zb⟩:=bcell Bb;(try simp only[szs] at Zb);try (first|obtain⟨Ya,Yb,Yc,Yd⟩:=lts4 Zb|obtain⟨Ya,Yb,Yc⟩:=lts3 Zb|obtain⟨Ya,Yb⟩:=lts2 Zb|have Ya:=lts1 Zb);have hb9:=Ba))
    go_ret
    exact⟨ret_bool (by simp[classesOk,h1]),bel⟩
  · go_wp2_with (first|(go_at_call_of 97 pa;refine(impl_TableOk m pa A B _ _ _ (by exact Kd.C_below hr bel) hn (by exact Kd.C_below ha bel) hka).mono ?_;rintro e w1 ⟨rfl,Ba⟩;obtain⟨Ca,Fa,Za⟩:=bcell Ba;(try simp only[szs] at Za);have Bb:=far2;obtain⟨Cb,Fb,Zb⟩:=bcell Bb;(try simp only[szs] at Zb);try (first|obtain⟨Ya,Yb,Yc,Yd⟩:=lts4 Zb|obtain⟨Ya,Yb,Yc⟩:=lts3 Zb|obtain⟨Ya,Yb⟩:=lts2 Zb|have Ya:=lts1 Zb);have hb9:=Ba)|(go_at_call_of 97 pb;refine(impl_TableOk m pb A C _ _ _ (by exact Kd.C_below hr bel) hn (by exact Kd.C_below hb bel) hkb).mono ?_;rintro e w1 ⟨rfl,Ba⟩;obtain⟨Ca,Fa,Za⟩:=bcell Ba;(try simp only[szs] at Za);have Bb:=far2;obtain⟨Cb,Fb,Zb⟩:=bcell Bb;(try simp only[szs] at Zb);try (first|obtain⟨Ya,Yb,Yc,Yd⟩:=lts4 Zb|obtain⟨Ya,Yb,Yc⟩:=lts3 Zb|obtain⟨Ya,Yb⟩:=lts2 Zb|have Ya:=lts1 Zb);have hb9:=Ba))
    go_ret
    exact⟨ret_bool (by simp[classesOk,h1]),bel⟩
theorem spec_ClassesOk (m:Mesh) (pa pb:List Int) (A B C:Option Addr) (c d k:Nat) (w:World) (hr:Kd.C (Kd.int .i64) w A m.br.length m.br) (hn:m.br.length≤2097152) (ha:Kd.C (Kd.int .i64) w B pa.length pa) (hka:pa.length≤2097152) (hb:Kd.C (Kd.int .i64) w C pb.length pb) (hkb:pb.length≤2097152) :
    Calls Tryz.prog 147 #[.agg #[.int .i64 m.g.w,.int .i64 m.g.h,.slice A m.br.length c],.agg #[.slice B pa.length d,.slice C pb.length k]] w fun e w'=>e=.returned (.bool (classesOk m pa pb))∧Below w.heap.size w w':=by
  go_enter Tryz.func147,Tryz.ntmps147
  cases h1:tableOk m pa
  · go_wp2_with (first|(go_at_call 192;refine(spec_TableOk m pa A B _ _ _ (by exact Kd.C_below hr bel) hn (by exact Kd.C_below ha bel) hka).mono ?_;rintro e w1 ⟨rfl,Ba⟩;obtain⟨Ca,Fa,Za⟩:=bcell Ba;(try simp only[szs] at Za);have Bb:=far2;obtain⟨Cb,Fb,Zb⟩:=bcell Bb;(try simp only[szs] at Zb);try (first|obtain⟨Ya,Yb,Yc,Yd⟩:=lts4 Zb|obtain⟨Ya,Yb,Yc⟩:=lts3 Zb|obtain⟨Ya,Yb⟩:=lts2 Zb|have Ya:=lts1 Zb);have hb9:=Ba))
    go_ret
    exact⟨ret_bool (by simp[classesOk,h1]),bel⟩
  · go_wp2_with (first|(go_at_call_of 192 pa;refine(spec_TableOk m pa A B _ _ _ (by exact Kd.C_below hr bel) hn (by exact Kd.C_below ha bel) hka).mono ?_;rintro e w1 ⟨rfl,Ba⟩;obtain⟨Ca,Fa,Za⟩:=bcell Ba;(try simp only[szs] at Za);have Bb:=far2;obtain⟨Cb,Fb,Zb⟩:=bcell Bb;(try simp only[szs] at Zb);try (first|obtain⟨Ya,Yb,Yc,Yd⟩:=lts4 Zb|obtain⟨Ya,Yb,Yc⟩:=lts3 Zb|obtain⟨Ya,Yb⟩:=lts2 Zb|have Ya:=lts1 Zb);have hb9:=Ba)|(go_at_call_of 192 pb;refine(spec_TableOk m pb A C _ _ _ (by exact Kd.C_below hr bel) hn (by exact Kd.C_below hb bel) hkb).mono ?_;rintro e w1 ⟨rfl,Ba⟩;obtain⟨Ca,Fa,Za⟩:=bcell Ba;(try simp only[szs] at Za);have Bb:=far2;obtain⟨Cb,Fb,Zb⟩:=bcell Bb;(try simp only[szs] at Zb);try (first|obtain⟨Ya,Yb,Yc,Yd⟩:=lts4 Zb|obtain⟨Ya,Yb,Yc⟩:=lts3 Zb|obtain⟨Ya,Yb⟩:=lts2 Zb|have Ya:=lts1 Zb);have hb9:=Ba))
    go_ret
    exact⟨ret_bool (by simp[classesOk,h1]),bel⟩

theorem impl_tableFor_b (pa pb:List Int) (B C:Option Addr) (d k:Nat) (cl:Int) (hc:(cl == 1)=true) (w:World) :
    Calls Tryz.prog 45 #[.agg #[.slice B pa.length d,.slice C pb.length k],.int .i64 cl] w fun e w'=>e=.returned (.agg #[.slice C pb.length k])∧Below w.heap.size w w':=by
  go_enter Tryz.func45,Tryz.ntmps45
  go_wp2
  exact bodyPost_ret (v:=.agg #[.slice C pb.length k]) (by simp[results,Tryz.results45,go_sem]) rfl ⟨rfl,bel⟩
theorem impl_tableFor_a (pa pb:List Int) (B C:Option Addr) (d k:Nat) (cl:Int) (hc:(cl == 1)=false) (w:World) :
    Calls Tryz.prog 45 #[.agg #[.slice B pa.length d,.slice C pb.length k],.int .i64 cl] w fun e w'=>e=.returned (.agg #[.slice B pa.length d])∧Below w.heap.size w w':=by
  go_enter Tryz.func45,Tryz.ntmps45
  go_wp2
  exact bodyPost_ret (v:=.agg #[.slice B pa.length d]) (by simp[results,Tryz.results45,go_sem]) rfl ⟨rfl,bel⟩

set_option maxHeartbeats 2000000 in
set_option maxRecDepth 100000 in
theorem impl_ZeroLoad (m:Mesh) (pa pb:List Int) (p:Packet) (A B C:Option Addr) (c d k:Nat) (w:World) (hr:Kd.C (Kd.int .i64) w A m.br.length m.br) (hn:m.br.length≤2097152) (ha:Kd.C (Kd.int .i64) w B pa.length pa) (hka:pa.length≤2097152) (hb:Kd.C (Kd.int .i64) w C pb.length pb) (hkb:pb.length≤2097152) :
    Calls Tryz.prog 10 #[.agg #[.int .i64 m.g.w,.int .i64 m.g.h,.slice A m.br.length c],.agg #[.slice B pa.length d,.slice C pb.length k],.agg #[.int .i64 p.id,.int .i64 p.src,.int .i64 p.dst,.int .i64 p.cls,.int .i64 p.len]] w fun e w'=>e=.returned (.int .i64 (zeroLoad m pa pb p))∧Below w.heap.size w w':=by
  go_enter Tryz.func10,Tryz.ntmps10
  cases h1:classesOk m pa pb
  · go_wp2_with (first|(go_at_call 42;refine(impl_ClassesOk m pa pb A B C _ _ _ _ (by exact Kd.C_below hr bel) hn (by exact Kd.C_below ha bel) hka (by exact Kd.C_below hb bel) hkb).mono ?_;rintro e w1 ⟨rfl,Ba⟩;obtain⟨Ca,Fa,Za⟩:=bcell Ba;(try simp only[szs] at Za);have Bb:=far2;obtain⟨Cb,Fb,Zb⟩:=bcell Bb;(try simp only[szs] at Zb);try (first|obtain⟨Ya,Yb,Yc,Yd⟩:=lts4 Zb|obtain⟨Ya,Yb,Yc⟩:=lts3 Zb|obtain⟨Ya,Yb⟩:=lts2 Zb|have Ya:=lts1 Zb);have hb9:=Ba))
    go_ret
    exact⟨ret_int (by simp[zeroLoad,h1]),bel⟩
  cases h2:packetOk m.g p
  · go_wp2_with (first|(go_at_call 42;refine(impl_ClassesOk m pa pb A B C _ _ _ _ (by exact Kd.C_below hr bel) hn (by exact Kd.C_below ha bel) hka (by exact Kd.C_below hb bel) hkb).mono ?_;rintro e w1 ⟨rfl,Ba⟩;obtain⟨Ca,Fa,Za⟩:=bcell Ba;(try simp only[szs] at Za);have Bb:=far2;obtain⟨Cb,Fb,Zb⟩:=bcell Bb;(try simp only[szs] at Zb);try (first|obtain⟨Ya,Yb,Yc,Yd⟩:=lts4 Zb|obtain⟨Ya,Yb,Yc⟩:=lts3 Zb|obtain⟨Ya,Yb⟩:=lts2 Zb|have Ya:=lts1 Zb);have hb9:=Ba)|(go_at_call 43;refine(impl_PacketOk m.g p _).mono ?_;rintro e w1 ⟨rfl,Ba⟩;obtain⟨Ca,Fa,Za⟩:=bcell Ba;(try simp only[szs] at Za);have Bb:=far2;obtain⟨Cb,Fb,Zb⟩:=bcell Bb;(try simp only[szs] at Zb);try (first|obtain⟨Ya,Yb,Yc,Yd⟩:=lts4 Zb|obtain⟨Ya,Yb,Yc⟩:=lts3 Zb|obtain⟨Ya,Yb⟩:=lts2 Zb|have Ya:=lts1 Zb);have hb9:=Ba))
    go_ret
    exact⟨ret_int (by simp[zeroLoad,h2]),bel⟩
  have hlen:=packetOk_len h2
  obtain⟨l1,l2⟩:=hlen
  have hwl:=wt_len m (tabOf pa pb p.cls) p.src p.dst
  by_cases hc:p.cls=1
  · have e1:(p.cls == 1)=true:=beq_iff_eq.2 hc
    rw[tabOf,if_pos hc] at hwl
    have HCL:=Lib.hid hc
    clear hc
    go_wp2_with (first|(go_at_call 42;refine(impl_ClassesOk m pa pb A B C _ _ _ _ (by exact Kd.C_below hr bel) hn (by exact Kd.C_below ha bel) hka (by exact Kd.C_below hb bel) hkb).mono ?_;rintro e w1 ⟨rfl,Ba⟩;obtain⟨Ca,Fa,Za⟩:=bcell Ba;(try simp only[szs] at Za);have Bb:=far2;obtain⟨Cb,Fb,Zb⟩:=bcell Bb;(try simp only[szs] at Zb);try (first|obtain⟨Ya,Yb,Yc,Yd⟩:=lts4 Zb|obtain⟨Ya,Yb,Yc⟩:=lts3 Zb|obtain⟨Ya,Yb⟩:=lts2 Zb|have Ya:=lts1 Zb);have hb9:=Ba)|(go_at_call 43;refine(impl_PacketOk m.g p _).mono ?_;rintro e w1 ⟨rfl,Ba⟩;obtain⟨Ca,Fa,Za⟩:=bcell Ba;(try simp only[szs] at Za);have Bb:=far2;obtain⟨Cb,Fb,Zb⟩:=bcell Bb;(try simp only[szs] at Zb);try (first|obtain⟨Ya,Yb,Yc,Yd⟩:=lts4 Zb|obtain⟨Ya,Yb,Yc⟩:=lts3 Zb|obtain⟨Ya,Yb⟩:=lts2 Zb|have Ya:=lts1 Zb);have hb9:=Ba))
    go_region_held3 (fun w'=>Below (((w.alloc (.cells #[.int .i64 m.g.w,.int .i64 m.g.h,.slice A m.br.length c] 28)).alloc (.cells #[.slice B pa.length d,.slice C pb.length k] 32)).alloc (.cells #[.int .i64 p.id,.int .i64 p.src,.int .i64 p.dst,.int .i64 p.cls,.int .i64 p.len] 38)).heap.size (((w.alloc (.cells #[.int .i64 m.g.w,.int .i64 m.g.h,.slice A m.br.length c] 28)).alloc (.cells #[.slice B pa.length d,.slice C pb.length k] 32)).alloc (.cells #[.int .i64 p.id,.int .i64 p.src,.int .i64 p.dst,.int .i64 p.cls,.int .i64 p.len] 38)) w'∧∀ bq oq,bq<(((w.alloc (.cells #[.int .i64 m.g.w,.int .i64 m.g.h,.slice A m.br.length c] 28)).alloc (.cells #[.slice B pa.length d,.slice C pb.length k] 32)).alloc (.cells #[.int .i64 p.id,.int .i64 p.src,.int .i64 p.dst,.int .i64 p.cls,.int .i64 p.len] 38)).heap.size→w'.cell? ⟨bq,oq,none⟩=(((w.alloc (.cells #[.int .i64 m.g.w,.int .i64 m.g.h,.slice A m.br.length c] 28)).alloc (.cells #[.slice B pa.length d,.slice C pb.length k] 32)).alloc (.cells #[.int .i64 p.id,.int .i64 p.src,.int .i64 p.dst,.int .i64 p.cls,.int .i64 p.len] 38)).cell? ⟨bq,oq,none⟩) (first|exact far_of bel) ( first|(go_at_call 45;refine(impl_tableFor_b pa pb B C d k _ e1 _).mono ?_;rintro e w1 ⟨rfl,Ba⟩;obtain⟨Ca,Fa,Za⟩:=bcell Ba;(try simp only[szs] at Za);have Bb:=far2;obtain⟨Cb,Fb,Zb⟩:=bcell Bb;(try simp only[szs] at Zb);try (first|obtain⟨Ya,Yb,Yc,Yd⟩:=lts4 Zb|obtain⟨Ya,Yb,Yc⟩:=lts3 Zb|obtain⟨Ya,Yb⟩:=lts2 Zb|have Ya:=lts1 Zb);have hb9:=Ba)|(go_at_call 44;refine(impl_WalkTable m pb p.src p.dst A C _ _ _ (by exact Kd.C_below hr bel) hn (by exact Kd.C_below hb bel) hkb).mono ?_;rintro e w1 ⟨hg1,Ba⟩;obtain⟨A1,c1,rfl,hk1,hr1⟩:=hg1.read;obtain⟨Ca,Fa,Za⟩:=bcell Ba;(try simp only[szs] at Za);have Bb:=far2;obtain⟨Cb,Fb,Zb⟩:=bcell Bb;(try simp only[szs] at Zb);try (first|obtain⟨Ya,Yb,Yc,Yd⟩:=lts4 Zb|obtain⟨Ya,Yb,Yc⟩:=lts3 Zb|obtain⟨Ya,Yb⟩:=lts2 Zb|have Ya:=lts1 Zb);have hb9:=Ba))
    go_wp2
    go_ret
    exact⟨ret_int (by rw[wrap_sum _ _ (by omega) (by omega) (by omega) (by omega)];simp[zeroLoad,h1,h2,walkP,tabOf,HCL.out]),bel⟩
  · have e1:(p.cls == 1)=false:=beq_eq_false_iff_ne.2 hc
    rw[tabOf,if_neg hc] at hwl
    have HCL:=Lib.hid hc
    clear hc
    go_wp2_with (first|(go_at_call 42;refine(impl_ClassesOk m pa pb A B C _ _ _ _ (by exact Kd.C_below hr bel) hn (by exact Kd.C_below ha bel) hka (by exact Kd.C_below hb bel) hkb).mono ?_;rintro e w1 ⟨rfl,Ba⟩;obtain⟨Ca,Fa,Za⟩:=bcell Ba;(try simp only[szs] at Za);have Bb:=far2;obtain⟨Cb,Fb,Zb⟩:=bcell Bb;(try simp only[szs] at Zb);try (first|obtain⟨Ya,Yb,Yc,Yd⟩:=lts4 Zb|obtain⟨Ya,Yb,Yc⟩:=lts3 Zb|obtain⟨Ya,Yb⟩:=lts2 Zb|have Ya:=lts1 Zb);have hb9:=Ba)|(go_at_call 43;refine(impl_PacketOk m.g p _).mono ?_;rintro e w1 ⟨rfl,Ba⟩;obtain⟨Ca,Fa,Za⟩:=bcell Ba;(try simp only[szs] at Za);have Bb:=far2;obtain⟨Cb,Fb,Zb⟩:=bcell Bb;(try simp only[szs] at Zb);try (first|obtain⟨Ya,Yb,Yc,Yd⟩:=lts4 Zb|obtain⟨Ya,Yb,Yc⟩:=lts3 Zb|obtain⟨Ya,Yb⟩:=lts2 Zb|have Ya:=lts1 Zb);have hb9:=Ba))
    go_region_held3 (fun w'=>Below (((w.alloc (.cells #[.int .i64 m.g.w,.int .i64 m.g.h,.slice A m.br.length c] 28)).alloc (.cells #[.slice B pa.length d,.slice C pb.length k] 32)).alloc (.cells #[.int .i64 p.id,.int .i64 p.src,.int .i64 p.dst,.int .i64 p.cls,.int .i64 p.len] 38)).heap.size (((w.alloc (.cells #[.int .i64 m.g.w,.int .i64 m.g.h,.slice A m.br.length c] 28)).alloc (.cells #[.slice B pa.length d,.slice C pb.length k] 32)).alloc (.cells #[.int .i64 p.id,.int .i64 p.src,.int .i64 p.dst,.int .i64 p.cls,.int .i64 p.len] 38)) w'∧∀ bq oq,bq<(((w.alloc (.cells #[.int .i64 m.g.w,.int .i64 m.g.h,.slice A m.br.length c] 28)).alloc (.cells #[.slice B pa.length d,.slice C pb.length k] 32)).alloc (.cells #[.int .i64 p.id,.int .i64 p.src,.int .i64 p.dst,.int .i64 p.cls,.int .i64 p.len] 38)).heap.size→w'.cell? ⟨bq,oq,none⟩=(((w.alloc (.cells #[.int .i64 m.g.w,.int .i64 m.g.h,.slice A m.br.length c] 28)).alloc (.cells #[.slice B pa.length d,.slice C pb.length k] 32)).alloc (.cells #[.int .i64 p.id,.int .i64 p.src,.int .i64 p.dst,.int .i64 p.cls,.int .i64 p.len] 38)).cell? ⟨bq,oq,none⟩) (first|exact far_of bel) ( first|(go_at_call 45;refine(impl_tableFor_a pa pb B C d k _ e1 _).mono ?_;rintro e w1 ⟨rfl,Ba⟩;obtain⟨Ca,Fa,Za⟩:=bcell Ba;(try simp only[szs] at Za);have Bb:=far2;obtain⟨Cb,Fb,Zb⟩:=bcell Bb;(try simp only[szs] at Zb);try (first|obtain⟨Ya,Yb,Yc,Yd⟩:=lts4 Zb|obtain⟨Ya,Yb,Yc⟩:=lts3 Zb|obtain⟨Ya,Yb⟩:=lts2 Zb|have Ya:=lts1 Zb);have hb9:=Ba)|(go_at_call 44;refine(impl_WalkTable m pa p.src p.dst A B _ _ _ (by exact Kd.C_below hr bel) hn (by exact Kd.C_below ha bel) hka).mono ?_;rintro e w1 ⟨hg1,Ba⟩;obtain⟨A1,c1,rfl,hk1,hr1⟩:=hg1.read;obtain⟨Ca,Fa,Za⟩:=bcell Ba;(try simp only[szs] at Za);have Bb:=far2;obtain⟨Cb,Fb,Zb⟩:=bcell Bb;(try simp only[szs] at Zb);try (first|obtain⟨Ya,Yb,Yc,Yd⟩:=lts4 Zb|obtain⟨Ya,Yb,Yc⟩:=lts3 Zb|obtain⟨Ya,Yb⟩:=lts2 Zb|have Ya:=lts1 Zb);have hb9:=Ba))
    go_wp2
    go_ret
    exact⟨ret_int (by rw[wrap_sum _ _ (by omega) (by omega) (by omega) (by omega)];simp[zeroLoad,h1,h2,walkP,tabOf,HCL.out]),bel⟩

theorem impl_areInside (l:List Int) (lo hi:Int) (A:Option Addr) (c:Nat) (w:World) (hr:Kd.C (Kd.int .i64) w A l.length l) (hn:l.length≤2097152) :
    Calls Tryz.prog 117 #[.slice A l.length c,.int .i64 lo,.int .i64 hi] w fun e w'=>e=.returned (.bool (allI l.length (fun i=>inside (ri l i) lo hi)))∧w=w':=by
  go_enter Tryz.func117,Tryz.ntmps117
  go_wp2
  go_loop [11] (fun i=>∃ k:Nat,i=.int .i64 k∧k≤l.length∧Hid (∀ j:Nat,j<k→inside (ri l j) lo hi=true)) (fun i=>l.length - (intOf i).toNat)
  case atStart=>exact⟨0,rfl,Nat.zero_le _,Lib.hid fun j h=>absurd h (Nat.not_lt_zero _)⟩
  case round=>
    obtain⟨k,rfl,hk,HA⟩:=hrel
    by_cases hlt:k<l.length
    · obtain⟨b,off,rfl,hb,hx⟩:=rdI_at hr k hlt
      have hxk:=hx k hlt
      clear hx
      cases h1:inside (ri l k) lo hi
      · have H1:=Lib.hid h1
        go_wp2_with (go_at_call 68;refine(impl_inside _ _ _ _).mono ?_;rintro e w' ⟨rfl,rfl⟩)
        go_ret
        exact⟨ret_bool (allI_false k hlt H1.out).symm,rfl⟩
      · have H1:=Lib.hid h1
        go_wp2_with (go_at_call 68;refine(impl_inside _ _ _ _).mono ?_;rintro e w' ⟨rfl,rfl⟩)
        go_round
        case rel=>exact⟨k+1,by go_num,by omega,Lib.hid (upto HA.out H1.out)⟩
        case measure=>simp[intOf];omega
    · go_wp2
      go_ret
      exact⟨ret_bool (allI_true (fun j hj=>HA.out j (by omega))).symm,rfl⟩
theorem flitOk_1 {g:Grid} {f:Flit} (h:isNode g f.dst=false):flitOk g f=false:=by simp[flitOk,h]
theorem flitOk_2 {g:Grid} {f:Flit} (h:inside f.cls 0 1=false):flitOk g f=false:=by simp[flitOk,h]
theorem flitOk_3 {g:Grid} {f:Flit} (h1:isNode g f.dst=true) (h2:inside f.cls 0 1=true):flitOk g f=true:=by simp[flitOk,h1,h2]

set_option maxHeartbeats 1000000 in
theorem impl_areFlits (g:Grid) (l:List Flit) (A:Option Addr) (c:Nat) (w:World) (hr:kF.C w A l.length l) (hn:l.length≤2097152) :
    Calls Tryz.prog 116 #[.agg #[.int .i64 g.w,.int .i64 g.h],.slice A l.length c] w fun e w'=>e=.returned (.bool (areFl g l))∧Below w.heap.size w w':=by
  go_enter Tryz.func116,Tryz.ntmps116
  go_wp2
  go_loopw [9] (fun i wr=>∃ k:Nat,i=.int .i64 k∧k≤l.length∧Hid (∀ j:Nat,j<k→flitOk g (rf l j)=true)∧Below (w.alloc (.cells #[.int .i64 g.w,.int .i64 g.h] 25)).heap.size (w.alloc (.cells #[.int .i64 g.w,.int .i64 g.h] 25)) wr) (fun i _=>l.length - (intOf i).toNat)
  case atStart=>exact⟨0,rfl,Nat.zero_le _,Lib.hid fun j h=>absurd h (Nat.not_lt_zero _),bel⟩
  case round=>
    obtain⟨k,rfl,hk,HA,HB⟩:=hrel
    obtain⟨hc0,hf0,hz0⟩:=bcell HB
    simp only[szs] at hz0
    have yy1:=lts1 hz0
    by_cases hlt:k<l.length
    · obtain⟨b,off,rfl,hb,p0,p1,p2,p3,p4⟩:=rdFl_at hr k hlt
      obtain⟨z1,z2,z3,z4,z5,z6⟩:=more hb
      have i0:(0:Int)≤(k:Int):=by omega
      have i1:(k:Int)<(l.length:Int):=by omega
      cases h1:isNode g (rf l k).dst
      · have H1:=Lib.hid h1
        go_wp2_with (first|(go_at_call 98;refine(impl_isNode g _ _).mono ?_;rintro e w1 ⟨rfl,Ba⟩;obtain⟨Ca,Fa,Za⟩:=bcell Ba;(try simp only[szs] at Za);have Bb:=far2;obtain⟨Cb,Fb,Zb⟩:=bcell Bb;(try simp only[szs] at Zb);try (first|obtain⟨Ya,Yb,Yc,Yd⟩:=lts4 Zb|obtain⟨Ya,Yb,Yc⟩:=lts3 Zb|obtain⟨Ya,Yb⟩:=lts2 Zb|have Ya:=lts1 Zb);have hb9:=Ba)|(go_at_call 68;refine(impl_inside _ _ _ _).mono ?_;rintro e w' ⟨rfl,rfl⟩))
        go_ret
        exact⟨ret_bool (areFl_no k hlt (flitOk_1 H1.out)).symm,bel⟩
      cases h2:inside (rf l k).cls 0 1
      · have H1:=Lib.hid h1
        have H2:=Lib.hid h2
        go_wp2_with (first|(go_at_call 98;refine(impl_isNode g _ _).mono ?_;rintro e w1 ⟨rfl,Ba⟩;obtain⟨Ca,Fa,Za⟩:=bcell Ba;(try simp only[szs] at Za);have Bb:=far2;obtain⟨Cb,Fb,Zb⟩:=bcell Bb;(try simp only[szs] at Zb);try (first|obtain⟨Ya,Yb,Yc,Yd⟩:=lts4 Zb|obtain⟨Ya,Yb,Yc⟩:=lts3 Zb|obtain⟨Ya,Yb⟩:=lts2 Zb|have Ya:=lts1 Zb);have hb9:=Ba)|(go_at_call 68;refine(impl_inside _ _ _ _).mono ?_;rintro e w' ⟨rfl,rfl⟩))
        go_ret
        exact⟨ret_bool (areFl_no k hlt (flitOk_2 H2.out)).symm,bel⟩
      · have H1:=Lib.hid h1
        have H2:=Lib.hid h2
        go_wp2_with (first|(go_at_call 98;refine(impl_isNode g _ _).mono ?_;rintro e w1 ⟨rfl,Ba⟩;obtain⟨Ca,Fa,Za⟩:=bcell Ba;(try simp only[szs] at Za);have Bb:=far2;obtain⟨Cb,Fb,Zb⟩:=bcell Bb;(try simp only[szs] at Zb);try (first|obtain⟨Ya,Yb,Yc,Yd⟩:=lts4 Zb|obtain⟨Ya,Yb,Yc⟩:=lts3 Zb|obtain⟨Ya,Yb⟩:=lts2 Zb|have Ya:=lts1 Zb);have hb9:=Ba)|(go_at_call 68;refine(impl_inside _ _ _ _).mono ?_;rintro e w' ⟨rfl,rfl⟩))
        go_roundw
        case rel=>exact⟨k+1,by go_num,by omega,Lib.hid (upto HA.out (flitOk_3 H1.out H2.out)),bel⟩
        case measure=>simp[intOf];omega
    · go_wp2
      go_ret
      exact⟨ret_bool (areFl_yes (fun j hj=>HA.out j (by omega))).symm,bel⟩
set_option maxHeartbeats 1000000 in
theorem spec_l15Flits (g:Grid) (l:List Flit) (A:Option Addr) (c:Nat) (w:World) (hr:kF.C w A l.length l) (hn:l.length≤2097152) :
  Calls Tryz.prog 149 #[.agg #[.int .i64 g.w,.int .i64 g.h],.slice A l.length c] w fun e w'=>e=.returned (.bool (areFl g l))∧Below w.heap.size w w':=by
 go_enter Tryz.func149,Tryz.ntmps149
 go_wp2
 go_loopw [5] (fun i wr=>∃ k:Nat,i=.int .i64 k∧k≤l.length∧Hid (∀ j:Nat,j<k→flitOk g (rf l j)=true)∧Below (w.alloc (.cells #[.int .i64 g.w,.int .i64 g.h] 25)).heap.size (w.alloc (.cells #[.int .i64 g.w,.int .i64 g.h] 25)) wr) (fun i _=>l.length - (intOf i).toNat)
 case atStart=>exact⟨0,rfl,Nat.zero_le _,Lib.hid fun j h=>absurd h (Nat.not_lt_zero _),bel⟩
 case round=>
  obtain⟨k,rfl,hk,HA,HB⟩:=hrel
  obtain⟨hc0,hf0,hz0⟩:=bcell HB
  simp only[szs] at hz0
  have yy1:=lts1 hz0
  by_cases hlt:k<l.length
  ·obtain⟨b,off,rfl,hb,p0,p1,p2,p3,p4⟩:=rdFl_at hr k hlt
   obtain⟨z1,z2,z3,z4,z5,z6⟩:=more hb
   have i0:(0:Int)≤(k:Int):=by omega
   have i1:(k:Int)<(l.length:Int):=by omega
   cases h1:isNode g (rf l k).dst
   ·have H1:=Lib.hid h1
    go_wp2_with fail
    refine wp_region_far ((w.alloc (.cells #[.int .i64 g.w,.int .i64 g.h] 25))) (by kernel_rfl) (by kernel_rfl) bel ?_
    have hqc:=far_cell ((w.alloc (.cells #[.int .i64 g.w,.int .i64 g.h] 25)))
    have hqf:=far_frozen ((w.alloc (.cells #[.int .i64 g.w,.int .i64 g.h] 25)))
    repeat (first|go_big_quiet_step (first|(go_at_call 193;exact far_call (Calls.says (spec_l02Has g (rf l k).dst _) (congrArg Value.bool H1.out))))|quiet_step (first|(go_at_call 193;exact far_call (Calls.says (spec_l02Has g (rf l k).dst _) (congrArg Value.bool H1.out)))))
    refine wpQuiet_nil ?_
    intro wq hbq
    clear hqc hqf
    obtain⟨hcq,hfq,hzq⟩:=bcell hbq
    try simp only[szs] at hzq
    go_wp2
    go_ret
    exact⟨ret_bool (areFl_no k hlt (flitOk_1 H1.out)).symm,bel⟩
   cases h2:inside (rf l k).cls 0 1
   ·have H1:=Lib.hid h1
    have H2:=Lib.hid h2
    go_wp2_with fail
    refine wp_region_far ((w.alloc (.cells #[.int .i64 g.w,.int .i64 g.h] 25))) (by kernel_rfl) (by kernel_rfl) bel ?_
    have hqc:=far_cell ((w.alloc (.cells #[.int .i64 g.w,.int .i64 g.h] 25)))
    have hqf:=far_frozen ((w.alloc (.cells #[.int .i64 g.w,.int .i64 g.h] 25)))
    repeat (first|go_big_quiet_step (first|(go_at_call 193;exact far_call (Calls.says (spec_l02Has g (rf l k).dst _) (congrArg Value.bool H1.out)))|(go_at_call 148;exact far_same (Calls.says (spec_l01In (rf l k).cls 0 1 _) (congrArg Value.bool H2.out))))|quiet_step (first|(go_at_call 193;exact far_call (Calls.says (spec_l02Has g (rf l k).dst _) (congrArg Value.bool H1.out)))|(go_at_call 148;exact far_same (Calls.says (spec_l01In (rf l k).cls 0 1 _) (congrArg Value.bool H2.out)))))
    refine wpQuiet_nil ?_
    intro wq hbq
    clear hqc hqf
    obtain⟨hcq,hfq,hzq⟩:=bcell hbq
    try simp only[szs] at hzq
    go_wp2
    go_ret
    exact⟨ret_bool (areFl_no k hlt (flitOk_2 H2.out)).symm,bel⟩
   ·have H1:=Lib.hid h1
    have H2:=Lib.hid h2
    go_wp2_with fail
    refine wp_region_far ((w.alloc (.cells #[.int .i64 g.w,.int .i64 g.h] 25))) (by kernel_rfl) (by kernel_rfl) bel ?_
    have hqc:=far_cell ((w.alloc (.cells #[.int .i64 g.w,.int .i64 g.h] 25)))
    have hqf:=far_frozen ((w.alloc (.cells #[.int .i64 g.w,.int .i64 g.h] 25)))
    repeat (first|go_big_quiet_step (first|(go_at_call 193;exact far_call (Calls.says (spec_l02Has g (rf l k).dst _) (congrArg Value.bool H1.out)))|(go_at_call 148;exact far_same (Calls.says (spec_l01In (rf l k).cls 0 1 _) (congrArg Value.bool H2.out))))|quiet_step (first|(go_at_call 193;exact far_call (Calls.says (spec_l02Has g (rf l k).dst _) (congrArg Value.bool H1.out)))|(go_at_call 148;exact far_same (Calls.says (spec_l01In (rf l k).cls 0 1 _) (congrArg Value.bool H2.out)))))
    refine wpQuiet_nil ?_
    intro wq hbq
    clear hqc hqf
    obtain⟨hcq,hfq,hzq⟩:=bcell hbq
    try simp only[szs] at hzq
    go_wp2
    go_roundw
    case rel=>exact⟨k+1,by go_num,by omega,Lib.hid (upto HA.out (flitOk_3 H1.out H2.out)),bel⟩
    case measure=>simp[intOf];omega
  ·go_wp2
   go_ret
   exact⟨ret_bool (areFl_yes (fun j hj=>HA.out j (by omega))).symm,bel⟩
section
variable {ops:Array Oper} {rest:List Oper} {o:Oper} {a:Act} {Q:Exit→Act→World→Prop}
theorem app_F {W0 W:World} (hgd:o.guard=none) (s x:Operand)
    (ho:o.op=.call { callee:=.builtin .append,args:=#[s,x],argTypes:=#[145,145] })
    (v:Value) (xs:List Flit) (q:Flit) (hs:a.eval s=v) (hx:a.eval x=.slice (some ⟨W.heap.size,0,none⟩) 1 1)
    (HO:kF.R 153 W W0.heap.size (fun _=>True) v xs) (HB:Below W0.heap.size W0 W) (hl:xs.length≤100000000)
    (h:∀ v1 w1,kF.R 153 w1 W0.heap.size (fun _=>True) v1 (xs++[q])→Below W0.heap.size W0 w1→wpList Tryz.prog ops Q rest (a.put o.dst v1) w1) :
    wpList Tryz.prog ops Q (o::rest) a (W.alloc (.cells #[.int .i64 q.pk,.int .i64 q.dst,.int .i64 q.cls,.bool q.head,.bool q.tail] 153)):=
  app_own kF hgd s x 145 153 (.agg #[.int .i64 0,.int .i64 0,.int .i64 0,.bool false,.bool false]) 32 ho Tryz.underlying145 info_F rfl (by decide) (by omega) v xs q (fCells q) hs hx rfl HO HB (by omega) h
end
theorem clsOnly_take_len (l:List Flit) (c:Int) (k:Nat):(clsOnly (l.take k) c).length≤k:=
  Nat.le_trans (List.length_filter_le _ _) (by rw[List.length_take];omega)
theorem clsOnly_yes {l:List Flit} {c:Int} (k:Nat) (hk:k<l.length) (h:(rf l k).cls=c):clsOnly (l.take (k+1)) c=clsOnly (l.take k) c++[rf l k]:=by
  rw[clsOnly_take k hk,if_pos (by simp[h])]
theorem clsOnly_no {l:List Flit} {c:Int} (k:Nat) (hk:k<l.length) (h:¬ (rf l k).cls=c):clsOnly (l.take (k+1)) c=clsOnly (l.take k) c:=by
  rw[clsOnly_take k hk,if_neg (by simp[h])]
set_option maxHeartbeats 1000000 in
theorem impl_ClassOnly (l:List Flit) (x:Int) (A:Option Addr) (c:Nat) (w:World) (hr:kF.C w A l.length l) (hn:l.length≤2097152) :
    Calls Tryz.prog 115 #[.slice A l.length c,.int .i64 x] w fun e w'=>GotF w w' (clsOnly l x) e∧Below w.heap.size w w':=by
  go_enter Tryz.func115,Tryz.ntmps115
  go_wp2
  go_loopw [5,11] (fun v i wr=>∃ j:Nat,i=.int .i64 j∧j≤l.length∧kF.R 153 wr w.heap.size (fun _=>True) v (clsOnly (l.take j) x)∧Below w.heap.size w wr) (fun _ i _=>l.length - (intOf i).toNat)
  case atStart=>exact⟨0,rfl,Nat.zero_le _,R_empty (W0:=w) _ _ (bw_size bel),bel⟩
  case round=>
    obtain⟨j,rfl,hj,HO,HB⟩:=hrel
    obtain⟨Ao,co,rfl⟩:=Kd.R_slice HO
    have hlen:=clsOnly_take_len l x j
    obtain⟨hc0,hf0,hz0⟩:=bcell HB
    by_cases hlt:j<l.length
    · obtain⟨b,off,rfl,hbl,p0,p1,p2,p3,p4⟩:=rdFl_at hr j hlt
      by_cases e1:(rf l j).cls=x
      · have f1:((rf l j).cls == x)=true:=beq_iff_eq.2 e1
        have HS:=Lib.hid (clsOnly_yes j hlt e1)
        clear e1
        go_wp2_with (at_builtin;refine app_F (W0:=w) rfl (.tmp 19) (.tmp 21) rfl _ (clsOnly (l.take j) x) (rf l j) rfl (by first|rfl|exact congrArg (fun z=>Value.slice (some ⟨z,0,none⟩) 1 1) (World.size_alloc _ _).symm) (by exact Kd.R_below HO bel) bel (by omega) ?_;intro v1 w1 HO1 HB1;obtain⟨Ca,Fa,Za⟩:=bcell HB1;(try simp only[szs] at Za);have Bb:=HB1;have hb9:=HB1)
        go_roundw
        case rel=>exact⟨j+1,by go_num,by omega,by rw[HS.out];exact(by exact Kd.R_below HO1 bel),bel⟩
        case measure=>simp[intOf];omega
      · have f1:((rf l j).cls == x)=false:=beq_eq_false_iff_ne.2 e1
        have HS:=Lib.hid (clsOnly_no j hlt e1)
        clear e1
        go_wp2
        go_roundw
        case rel=>exact⟨j+1,by go_num,by omega,by rw[HS.out];exact(by exact Kd.R_below HO bel),bel⟩
        case measure=>simp[intOf];omega
    · go_wp2
      go_ret
      have E:clsOnly (l.take j) x=clsOnly l x:=by rw[List.take_of_length_le (by omega)]
      exact⟨(by rw[←E];exact⟨_,rfl,(by exact Kd.R_below HO bel)⟩),bel⟩
set_option maxHeartbeats 1000000 in
theorem spec_ClassOnly (l:List Flit) (x:Int) (A:Option Addr) (c:Nat) (w:World) (hr:kF.C w A l.length l) (hn:l.length≤2097152) :
    Calls Tryz.prog 205 #[.slice A l.length c,.int .i64 x] w fun e w'=>GotF w w' (clsOnly l x) e∧Below w.heap.size w w':=by
  go_enter Tryz.func205,Tryz.ntmps205
  go_wp2
  go_loopw [5,6] (fun v i wr=>∃ j:Nat,i=.int .i64 j∧j≤l.length∧kF.R 153 wr w.heap.size (fun _=>True) v (clsOnly (l.take j) x)∧Below w.heap.size w wr) (fun _ i _=>l.length - (intOf i).toNat)
  case atStart=>exact⟨0,rfl,Nat.zero_le _,R_empty (W0:=w) _ _ (bw_size bel),bel⟩
  case round=>
    obtain⟨j,rfl,hj,HO,HB⟩:=hrel
    obtain⟨Ao,co,rfl⟩:=Kd.R_slice HO
    have hlen:=clsOnly_take_len l x j
    obtain⟨hc0,hf0,hz0⟩:=bcell HB
    by_cases hlt:j<l.length
    · obtain⟨b,off,rfl,hbl,p0,p1,p2,p3,p4⟩:=rdFl_at hr j hlt
      by_cases e1:(rf l j).cls=x
      · have f1:((rf l j).cls == x)=true:=beq_iff_eq.2 e1
        have HS:=Lib.hid (clsOnly_yes j hlt e1)
        clear e1
        go_wp2_with (at_builtin;refine app_F (W0:=w) rfl (.tmp 21) (.tmp 26) rfl _ (clsOnly (l.take j) x) (rf l j) rfl (by first|rfl|exact congrArg (fun z=>Value.slice (some ⟨z,0,none⟩) 1 1) (World.size_alloc _ _).symm) (by exact Kd.R_below HO bel) bel (by omega) ?_;intro v1 w1 HO1 HB1;obtain⟨Ca,Fa,Za⟩:=bcell HB1;(try simp only[szs] at Za);have Bb:=HB1;have hb9:=HB1)
        go_roundw
        case rel=>exact⟨j+1,by go_num,by omega,by rw[HS.out];exact(by exact Kd.R_below HO1 bel),bel⟩
        case measure=>simp[intOf];omega
      · have f1:((rf l j).cls == x)=false:=beq_eq_false_iff_ne.2 e1
        have HS:=Lib.hid (clsOnly_no j hlt e1)
        clear e1
        go_wp2
        go_roundw
        case rel=>exact⟨j+1,by go_num,by omega,by rw[HS.out];exact(by exact Kd.R_below HO bel),bel⟩
        case measure=>simp[intOf];omega
    · go_wp2
      go_ret
      have E:clsOnly (l.take j) x=clsOnly l x:=by rw[List.take_of_length_le (by omega)]
      exact⟨(by rw[←E];exact⟨_,rfl,(by exact Kd.R_below HO bel)⟩),bel⟩
theorem stp_refl (w:World):Stp w w:=⟨Below.refl _ _⟩
theorem stp_drew {w W:World} (h:Stp w W):Stp w W.drew:=⟨bw_drew h.h⟩
theorem stp_then {w W W':World} (h:Stp w W) (k:Stp W W'):Stp w W':=⟨bw_then h.h k.h⟩
theorem GotTab.at {w w':World} {t:List Int} {e:Ending} (h:GotTab w w' t e):∃ A c,e=.returned (.agg #[.slice A t.length c])∧Kd.R (Kd.int .i64) 3 w' w.heap.size (fun _=>True) (.slice A t.length c) t:=by
  obtain⟨v,rfl,hr⟩:=h
  obtain⟨A,c,rfl⟩:=Kd.R_slice hr
  exact⟨A,c,rfl,hr⟩
set_option maxHeartbeats 1000000 in
theorem impl_copyTable (t:List Int) (A:Option Addr) (c:Nat) (w:World) (hr:Kd.C (Kd.int .i64) w A t.length t) (hn:t.length≤2097152) :
    Calls Tryz.prog 113 #[.agg #[.slice A t.length c]] w fun e w'=>GotTab w w' t e∧Below w.heap.size w w':=by
  have R:=Lib.hid hr
  clear hr
  go_enter Tryz.func113,Tryz.ntmps113
  go_wp2_with (at_builtin;(refine copy_int (B:=((w.alloc (.cells #[.slice A t.length c] 30)).alloc (.cells #[.slice none 0 0] 30)).heap.size) rfl (.tmp 3) (.tmp 5) rfl _ t A c rfl rfl (by with_reducible repeat (first|assumption|(refine lit_new ?_;first|done|rfl|(simp only[World.size_alloc,World.size_drew,World.size_setCell];done))|exact lit_new (by simp only[World.size_alloc,World.size_drew,World.size_setCell])|refine lit_stp (by assumption) ?_|refine lit_alloc _ ?_|refine lit_drew ?_)) (by simp only[szs];omega) (by exact Kd.C_below R.out bel) (by simp only[szs];omega) (by omega) ?_;intro v1 w1 HO1 Ba ht1;obtain⟨A1,c1,rfl⟩:=Kd.R_slice HO1;obtain⟨Ca,Fa,Za⟩:=bcell Ba;(try simp only[szs] at Za);have Bb:=far2;obtain⟨Cb,Fb,Zb⟩:=bcell Bb;(try simp only[szs] at Zb);try (first|obtain⟨Ya,Yb,Yc,Yd⟩:=lts4 Zb|obtain⟨Ya,Yb,Yc⟩:=lts3 Zb|obtain⟨Ya,Yb⟩:=lts2 Zb|have Ya:=lts1 Zb);have hb9:=Ba))
  exact bodyPost_ret (v:=.agg #[.slice A1 t.length c1]) (by simp[results,Tryz.results113,go_sem, *]) rfl ⟨⟨_,rfl,(by apply Kd.R_lower;(with_reducible repeat (first|exact HO1|apply R_off|(apply R_belowC;assumption)));all_goals (first|omega|(simp only[szs];omega)))⟩,bel⟩
set_option maxHeartbeats 1000000 in
theorem spec_l12Copy (t:List Int) (A:Option Addr) (c:Nat) (w:World) (hr:Kd.C (Kd.int .i64) w A t.length t) (hn:t.length≤2097152) :
    Calls Tryz.prog 207 #[.agg #[.slice A t.length c]] w fun e w'=>GotTab w w' t e∧Below w.heap.size w w':=by
  have R:=Lib.hid hr
  clear hr
  go_enter Tryz.func207,Tryz.ntmps207
  go_wp2_with (at_builtin;(refine copy_int (B:=((w.alloc (.cells #[.slice A t.length c] 30)).alloc (.cells #[.slice none 0 0] 30)).heap.size) rfl (.tmp 3) (.tmp 5) rfl _ t A c rfl rfl (by with_reducible repeat (first|assumption|(refine lit_new ?_;first|done|rfl|(simp only[World.size_alloc,World.size_drew,World.size_setCell];done))|exact lit_new (by simp only[World.size_alloc,World.size_drew,World.size_setCell])|refine lit_stp (by assumption) ?_|refine lit_alloc _ ?_|refine lit_drew ?_)) (by simp only[szs];omega) (by exact Kd.C_below R.out bel) (by simp only[szs];omega) (by omega) ?_;intro v1 w1 HO1 Ba ht1;obtain⟨A1,c1,rfl⟩:=Kd.R_slice HO1;obtain⟨Ca,Fa,Za⟩:=bcell Ba;(try simp only[szs] at Za);have Bb:=far2;obtain⟨Cb,Fb,Zb⟩:=bcell Bb;(try simp only[szs] at Zb);try (first|obtain⟨Ya,Yb,Yc,Yd⟩:=lts4 Zb|obtain⟨Ya,Yb,Yc⟩:=lts3 Zb|obtain⟨Ya,Yb⟩:=lts2 Zb|have Ya:=lts1 Zb);have hb9:=Ba))
  exact bodyPost_ret (v:=.agg #[.slice A1 t.length c1]) (by simp[results,Tryz.results207,go_sem, *]) rfl ⟨⟨_,rfl,(by apply Kd.R_lower;(with_reducible repeat (first|exact HO1|apply R_off|(apply R_belowC;assumption)));all_goals (first|omega|(simp only[szs];omega)))⟩,bel⟩
set_option maxHeartbeats 2000000 in
theorem impl_copyMesh (m:Mesh) (A:Option Addr) (c:Nat) (w:World) (hr:Kd.C (Kd.int .i64) w A m.br.length m.br) (hn:m.br.length≤2097152) :
    Calls Tryz.prog 52 #[.agg #[.int .i64 m.g.w,.int .i64 m.g.h,.slice A m.br.length c]] w fun e w'=>GotMesh w w' m e∧Below w.heap.size w w':=by
  have R:=Lib.hid hr
  clear hr
  have xx:=(Box.new w w.heap.size #[.int .i64 m.g.w,.int .i64 m.g.h,.slice A m.br.length c] 28 rfl)
  have g0:(w.alloc (.cells #[.int .i64 m.g.w,.int .i64 m.g.h,.slice A m.br.length c] 28)).cell? ⟨w.heap.size,0,none⟩=some (.int .i64 m.g.w):=xx.get 0
  have g1:(w.alloc (.cells #[.int .i64 m.g.w,.int .i64 m.g.h,.slice A m.br.length c] 28)).cell? ⟨w.heap.size,1,none⟩=some (.int .i64 m.g.h):=xx.get 1
  have g2:(w.alloc (.cells #[.int .i64 m.g.w,.int .i64 m.g.h,.slice A m.br.length c] 28)).cell? ⟨w.heap.size,2,none⟩=some (.slice A m.br.length c):=xx.get 2
  clear xx
  go_enter Tryz.func52,Tryz.ntmps52
  go_wp2_with fail
  go_region_held3 (fun w'=>Below ((w.alloc (.cells #[.int .i64 m.g.w,.int .i64 m.g.h,.slice A m.br.length c] 28))).heap.size ((w.alloc (.cells #[.int .i64 m.g.w,.int .i64 m.g.h,.slice A m.br.length c] 28))) w'∧∀ bq oq,bq<((w.alloc (.cells #[.int .i64 m.g.w,.int .i64 m.g.h,.slice A m.br.length c] 28))).heap.size→w'.cell? ⟨bq,oq,none⟩=((w.alloc (.cells #[.int .i64 m.g.w,.int .i64 m.g.h,.slice A m.br.length c] 28))).cell? ⟨bq,oq,none⟩) (first|exact far_of bel) ( first|(refine copyS_int (B:=((w.alloc (.cells #[.int .i64 m.g.w,.int .i64 m.g.h,.slice A m.br.length c] 28)).alloc (.cells #[.int .i64 0,.int .i64 0,.slice none 0 0] 28)).heap.size) (by rfl) (.tmp 5) (.tmp 7) rfl _ m.br A c rfl rfl (by with_reducible repeat (first|assumption|(refine lit_new ?_;first|done|rfl|(simp only[World.size_alloc,World.size_drew,World.size_setCell];done))|exact lit_new (by simp only[World.size_alloc,World.size_drew,World.size_setCell])|refine lit_stp (by assumption) ?_|refine lit_alloc _ ?_|refine lit_drew ?_)) (by simp only[szs];omega) (by exact Kd.C_below R.out bel) (by simp only[szs];omega) (by omega) ?_;intro v1 w1 HO1 Ba ht1;obtain⟨A1,c1,rfl⟩:=Kd.R_slice HO1;obtain⟨Ca,Fa,Za⟩:=bcell Ba;(try simp only[szs] at Za);have Bb:=far2;obtain⟨Cb,Fb,Zb⟩:=bcell Bb;(try simp only[szs] at Zb);try (first|obtain⟨Ya,Yb,Yc,Yd⟩:=lts4 Zb|obtain⟨Ya,Yb,Yc⟩:=lts3 Zb|obtain⟨Ya,Yb⟩:=lts2 Zb|have Ya:=lts1 Zb);have hb9:=Ba))
  all_goals go_wp2
  all_goals exact bodyPost_ret (v:=.agg #[.int .i64 m.g.w,.int .i64 m.g.h,.slice A1 m.br.length c1]) (by simp[results,Tryz.results52,go_sem, *]) rfl ⟨⟨_,rfl,(by apply Kd.R_lower;(with_reducible repeat (first|exact HO1|apply R_off|(apply R_belowC;assumption)));all_goals (first|omega|(simp only[szs];omega)))⟩,bel⟩
set_option maxHeartbeats 2000000 in
theorem spec_l15Mesh (m:Mesh) (A:Option Addr) (c:Nat) (w:World) (hr:Kd.C (Kd.int .i64) w A m.br.length m.br) (hn:m.br.length≤2097152) :
    Calls Tryz.prog 171 #[.agg #[.int .i64 m.g.w,.int .i64 m.g.h,.slice A m.br.length c]] w fun e w'=>GotMesh w w' m e∧Below w.heap.size w w':=by
  have R:=Lib.hid hr
  clear hr
  have xx:=(Box.new w w.heap.size #[.int .i64 m.g.w,.int .i64 m.g.h,.slice A m.br.length c] 28 rfl)
  have g0:(w.alloc (.cells #[.int .i64 m.g.w,.int .i64 m.g.h,.slice A m.br.length c] 28)).cell? ⟨w.heap.size,0,none⟩=some (.int .i64 m.g.w):=xx.get 0
  have g1:(w.alloc (.cells #[.int .i64 m.g.w,.int .i64 m.g.h,.slice A m.br.length c] 28)).cell? ⟨w.heap.size,1,none⟩=some (.int .i64 m.g.h):=xx.get 1
  have g2:(w.alloc (.cells #[.int .i64 m.g.w,.int .i64 m.g.h,.slice A m.br.length c] 28)).cell? ⟨w.heap.size,2,none⟩=some (.slice A m.br.length c):=xx.get 2
  clear xx
  go_enter Tryz.func171,Tryz.ntmps171
  go_wp2_with fail
  go_region_held3 (fun w'=>Below ((w.alloc (.cells #[.int .i64 m.g.w,.int .i64 m.g.h,.slice A m.br.length c] 28))).heap.size ((w.alloc (.cells #[.int .i64 m.g.w,.int .i64 m.g.h,.slice A m.br.length c] 28))) w'∧∀ bq oq,bq<((w.alloc (.cells #[.int .i64 m.g.w,.int .i64 m.g.h,.slice A m.br.length c] 28))).heap.size→w'.cell? ⟨bq,oq,none⟩=((w.alloc (.cells #[.int .i64 m.g.w,.int .i64 m.g.h,.slice A m.br.length c] 28))).cell? ⟨bq,oq,none⟩) (first|exact far_of bel) ( first|(refine copyS_int (B:=((w.alloc (.cells #[.int .i64 m.g.w,.int .i64 m.g.h,.slice A m.br.length c] 28)).alloc (.cells #[.int .i64 0,.int .i64 0,.slice none 0 0] 28)).heap.size) (by rfl) (.tmp 5) (.tmp 7) rfl _ m.br A c rfl rfl (by with_reducible repeat (first|assumption|(refine lit_new ?_;first|done|rfl|(simp only[World.size_alloc,World.size_drew,World.size_setCell];done))|exact lit_new (by simp only[World.size_alloc,World.size_drew,World.size_setCell])|refine lit_stp (by assumption) ?_|refine lit_alloc _ ?_|refine lit_drew ?_)) (by simp only[szs];omega) (by exact Kd.C_below R.out bel) (by simp only[szs];omega) (by omega) ?_;intro v1 w1 HO1 Ba ht1;obtain⟨A1,c1,rfl⟩:=Kd.R_slice HO1;obtain⟨Ca,Fa,Za⟩:=bcell Ba;(try simp only[szs] at Za);have Bb:=far2;obtain⟨Cb,Fb,Zb⟩:=bcell Bb;(try simp only[szs] at Zb);try (first|obtain⟨Ya,Yb,Yc,Yd⟩:=lts4 Zb|obtain⟨Ya,Yb,Yc⟩:=lts3 Zb|obtain⟨Ya,Yb⟩:=lts2 Zb|have Ya:=lts1 Zb);have hb9:=Ba))
  all_goals go_wp2
  all_goals exact bodyPost_ret (v:=.agg #[.int .i64 m.g.w,.int .i64 m.g.h,.slice A1 m.br.length c1]) (by simp[results,Tryz.results171,go_sem, *]) rfl ⟨⟨_,rfl,(by apply Kd.R_lower;(with_reducible repeat (first|exact HO1|apply R_off|(apply R_belowC;assumption)));all_goals (first|omega|(simp only[szs];omega)))⟩,bel⟩
set_option maxHeartbeats 2000000 in
theorem impl_copyClasses (pa pb:List Int) (A B:Option Addr) (c d:Nat) (w:World) (hr:Kd.C (Kd.int .i64) w A pa.length pa) (hn:pa.length≤2097152) (hs:Kd.C (Kd.int .i64) w B pb.length pb) (hm:pb.length≤2097152) :
    Calls Tryz.prog 53 #[.agg #[.slice A pa.length c,.slice B pb.length d]] w fun e w'=>GotCls w w' pa pb e∧Below w.heap.size w w':=by
  have R:=Lib.hid hr
  have S:=Lib.hid hs
  clear hr hs
  have xx:=(Box.new w w.heap.size #[.slice A pa.length c,.slice B pb.length d] 32 rfl)
  have g0:(w.alloc (.cells #[.slice A pa.length c,.slice B pb.length d] 32)).cell? ⟨w.heap.size,0,none⟩=some (.slice A pa.length c):=xx.get 0
  have g1:(w.alloc (.cells #[.slice A pa.length c,.slice B pb.length d] 32)).cell? ⟨w.heap.size,1,none⟩=some (.slice B pb.length d):=xx.get 1
  clear xx
  go_enter Tryz.func53,Tryz.ntmps53
  go_wp2_with fail
  go_region_held3 (fun w'=>Below ((w.alloc (.cells #[.slice A pa.length c,.slice B pb.length d] 32))).heap.size ((w.alloc (.cells #[.slice A pa.length c,.slice B pb.length d] 32))) w'∧∀ bq oq,bq<((w.alloc (.cells #[.slice A pa.length c,.slice B pb.length d] 32))).heap.size→w'.cell? ⟨bq,oq,none⟩=((w.alloc (.cells #[.slice A pa.length c,.slice B pb.length d] 32))).cell? ⟨bq,oq,none⟩) (first|exact far_of bel) ( first|(go_at_call_of 113 pa;refine(impl_copyTable pa A c _ (by exact Kd.C_below R.out bel) hn).mono ?_;rintro e wa ⟨hg1,hba⟩;obtain⟨Aa,ca,rfl,HOA⟩:=hg1.at;have sa:=bw_size hba;(try simp only[szs] at sa);have Ba:=hba;obtain⟨Ca,Fa,Za⟩:=bcell Ba;(try simp only[szs] at Za);have Bb:=far2;obtain⟨Cb,Fb,Zb⟩:=bcell Bb;(try simp only[szs] at Zb);try (first|obtain⟨Ya,Yb,Yc,Yd⟩:=lts4 Zb|obtain⟨Ya,Yb,Yc⟩:=lts3 Zb|obtain⟨Ya,Yb⟩:=lts2 Zb|have Ya:=lts1 Zb);have hb9:=Ba)|(go_at_call_of 113 pb;refine(impl_copyTable pb B d _ (by exact Kd.C_below S.out bel) hm).mono ?_;rintro e wb ⟨hg1,hbb⟩;obtain⟨Ab,cb,rfl,HOB⟩:=hg1.at;have sb:=bw_size hbb;(try simp only[szs] at sb);have Ba:=hbb;obtain⟨Ca,Fa,Za⟩:=bcell Ba;(try simp only[szs] at Za);have Bb:=far2;obtain⟨Cb,Fb,Zb⟩:=bcell Bb;(try simp only[szs] at Zb);try (first|obtain⟨Ya,Yb,Yc,Yd⟩:=lts4 Zb|obtain⟨Ya,Yb,Yc⟩:=lts3 Zb|obtain⟨Ya,Yb⟩:=lts2 Zb|have Ya:=lts1 Zb);have hb9:=Ba))
  all_goals go_wp2
  all_goals exact bodyPost_ret (v:=.agg #[.slice Aa pa.length ca,.slice Ab pb.length cb]) (by simp[results,Tryz.results53,go_sem, *]) rfl ⟨⟨_,_,rfl,(by apply Kd.R_lower;(with_reducible repeat (first|exact HOA|apply R_off|(apply R_belowC;assumption)));all_goals (first|omega|(simp only[szs];omega))),(by apply Kd.R_lower;(with_reducible repeat (first|exact HOB|apply R_off|(apply R_belowC;assumption)));all_goals (first|omega|(simp only[szs];omega))),R_apart HOA HOB (by first|omega|(simp only[szs];omega))⟩,bel⟩
set_option maxHeartbeats 2000000 in
theorem spec_l15Classes (pa pb:List Int) (A B:Option Addr) (c d:Nat) (w:World) (hr:Kd.C (Kd.int .i64) w A pa.length pa) (hn:pa.length≤2097152) (hs:Kd.C (Kd.int .i64) w B pb.length pb) (hm:pb.length≤2097152) :
    Calls Tryz.prog 172 #[.agg #[.slice A pa.length c,.slice B pb.length d]] w fun e w'=>GotCls w w' pa pb e∧Below w.heap.size w w':=by
  have R:=Lib.hid hr
  have S:=Lib.hid hs
  clear hr hs
  have xx:=(Box.new w w.heap.size #[.slice A pa.length c,.slice B pb.length d] 32 rfl)
  have g0:(w.alloc (.cells #[.slice A pa.length c,.slice B pb.length d] 32)).cell? ⟨w.heap.size,0,none⟩=some (.slice A pa.length c):=xx.get 0
  have g1:(w.alloc (.cells #[.slice A pa.length c,.slice B pb.length d] 32)).cell? ⟨w.heap.size,1,none⟩=some (.slice B pb.length d):=xx.get 1
  clear xx
  go_enter Tryz.func172,Tryz.ntmps172
  go_wp2_with fail
  go_region_held3 (fun w'=>Below ((w.alloc (.cells #[.slice A pa.length c,.slice B pb.length d] 32))).heap.size ((w.alloc (.cells #[.slice A pa.length c,.slice B pb.length d] 32))) w'∧∀ bq oq,bq<((w.alloc (.cells #[.slice A pa.length c,.slice B pb.length d] 32))).heap.size→w'.cell? ⟨bq,oq,none⟩=((w.alloc (.cells #[.slice A pa.length c,.slice B pb.length d] 32))).cell? ⟨bq,oq,none⟩) (first|exact far_of bel) ( first|(go_at_call_of 207 pa;refine(spec_l12Copy pa A c _ (by exact Kd.C_below R.out bel) hn).mono ?_;rintro e wa ⟨hg1,hba⟩;obtain⟨Aa,ca,rfl,HOA⟩:=hg1.at;have sa:=bw_size hba;(try simp only[szs] at sa);have Ba:=hba;obtain⟨Ca,Fa,Za⟩:=bcell Ba;(try simp only[szs] at Za);have Bb:=far2;obtain⟨Cb,Fb,Zb⟩:=bcell Bb;(try simp only[szs] at Zb);try (first|obtain⟨Ya,Yb,Yc,Yd⟩:=lts4 Zb|obtain⟨Ya,Yb,Yc⟩:=lts3 Zb|obtain⟨Ya,Yb⟩:=lts2 Zb|have Ya:=lts1 Zb);have hb9:=Ba)|(go_at_call_of 207 pb;refine(spec_l12Copy pb B d _ (by exact Kd.C_below S.out bel) hm).mono ?_;rintro e wb ⟨hg1,hbb⟩;obtain⟨Ab,cb,rfl,HOB⟩:=hg1.at;have sb:=bw_size hbb;(try simp only[szs] at sb);have Ba:=hbb;obtain⟨Ca,Fa,Za⟩:=bcell Ba;(try simp only[szs] at Za);have Bb:=far2;obtain⟨Cb,Fb,Zb⟩:=bcell Bb;(try simp only[szs] at Zb);try (first|obtain⟨Ya,Yb,Yc,Yd⟩:=lts4 Zb|obtain⟨Ya,Yb,Yc⟩:=lts3 Zb|obtain⟨Ya,Yb⟩:=lts2 Zb|have Ya:=lts1 Zb);have hb9:=Ba))
  all_goals go_wp2
  all_goals exact bodyPost_ret (v:=.agg #[.slice Aa pa.length ca,.slice Ab pb.length cb]) (by simp[results,Tryz.results172,go_sem, *]) rfl ⟨⟨_,_,rfl,(by apply Kd.R_lower;(with_reducible repeat (first|exact HOA|apply R_off|(apply R_belowC;assumption)));all_goals (first|omega|(simp only[szs];omega))),(by apply Kd.R_lower;(with_reducible repeat (first|exact HOB|apply R_off|(apply R_belowC;assumption)));all_goals (first|omega|(simp only[szs];omega))),R_apart HOA HOB (by first|omega|(simp only[szs];omega))⟩,bel⟩
theorem own_lit0 {e g B sz:Nat} {w:World} (h:Lit e w g) (hB:B≤g):w.ownsRow B e sz (.slice (some ⟨g,0,none⟩) 0 0) 0 []:=
  ⟨by simp,.inr ⟨g,0,#[],rfl,hB,h,Nat.le_refl _,Nat.zero_le _,by simp,by simp⟩⟩
theorem FR.nil (w:World) (lo:Nat):FR w lo [] []:=⟨rfl,fun i h=>absurd h (Nat.not_lt_zero _),fun i j _ h=>absurd h (Nat.not_lt_zero _)⟩
theorem FR.snoc {w:World} {lo:Nat} {vs:List Value} {l:List (List Flit)} {u:Value} {y:List Flit} (h:FR w lo vs l) (hu:kF.R 153 w lo (fun _=>True) u y) (ha:∀ i:Nat,i<l.length→Apart (vr vs i) u):FR w lo (vs++[u]) (l++[y]):=by
  have hl:=h.len
  have e1:∀ i:Nat,i<l.length→vr (vs++[u]) i=vr vs i:=fun i hi=>vr_left (by omega)
  have e2:vr (vs++[u]) l.length=u:=by
    have:=vr_right (a:=vs) (b:=[u]) (i:=0)
    rw[Nat.add_zero,hl] at this
    exact this
  refine⟨by simp[hl],fun i hi=>?_,fun i j hij hj=>?_⟩
  · rw[List.length_append,List.length_singleton] at hi
    by_cases e:i<l.length
    · rw[e1 i e,rl_left e]
      exact h.row i e
    · obtain rfl:i=l.length:=by omega
      rw[e2]
      have:=rl_right (a:=l) (b:=[y]) (i:=0)
      rw[Nat.add_zero] at this
      rw[this]
      exact hu
  · rw[List.length_append,List.length_singleton] at hj
    by_cases e:j<l.length
    · rw[e1 i (by omega),e1 j e]
      exact h.ap i j hij e
    · obtain rfl:j=l.length:=by omega
      rw[e2,e1 i hij]
      exact ha i hij
theorem FR.other {w w1:World} {lo base n:Nat} {vs us:List Value} {l:List (List Flit)} {v:Value} (h:FR w lo vs l) (ho:w.ownsRow base 145 1 v n us) (hg:w.grownBy w1 v.ownBlock):FR w1 lo vs l:=
  ⟨h.len,fun i hi=>by obtain⟨inner,hin⟩:=Kd.R_own (h.row i hi);exact R_grownF (h.row i hi) hg (own_type_ne hin ho (by decide)),h.ap⟩
theorem RF_other {w w1:World} {lo base n:Nat} {us:List Value} {u:Value} {y:List Flit} {v:Value} (h:kF.R 153 w lo (fun _=>True) u y) (ho:w.ownsRow base 145 1 v n us) (hg:w.grownBy w1 v.ownBlock):kF.R 153 w1 lo (fun _=>True) u y:=by
  obtain⟨inner,hin⟩:=Kd.R_own h
  exact R_grownF h hg (own_type_ne hin ho (by decide))
def GotOX (w w':World) (l:List (List Flit)) (e:Ending):Prop:=∃ A c vs,e=.returned (.slice A l.length c)∧w'.ownsRow w.heap.size 145 1 (.slice A l.length c) l.length vs∧FR w' w.heap.size vs l
theorem take_snocB (l:List (List Flit)) (k:Nat) (hk:k<l.length):l.take (k+1)=l.take k++[rl l k]:=by
  have:rl l (k:Int)=l[k]:=by simp[rl,List.getD_eq_getElem?_getD,hk]
  rw[this,List.take_succ_eq_append_getElem hk]
section
variable {ops:Array Oper} {rest:List Oper} {o:Oper} {a:Act} {Q:Exit→Act→World→Prop}
theorem app_row {B:Nat} {W0 W:World} (hgd:o.guard=none) (s x:Operand)
    (ho:o.op=.call { callee:=.builtin .append,args:=#[s,x],argTypes:=#[40,40] })
    (v u:Value) (vs:List Value) (l:List (List Flit)) (y:List Flit) (hs:a.eval s=v) (hx:a.eval x=.slice (some ⟨W.heap.size,0,none⟩) 1 1) (h1:u.oneCell'=true)
    (HO:W.ownsRow B 145 1 v vs.length vs) (HF:FR W B vs l) (HU:kF.R 153 W B (fun _=>True) u y) (ha:∀ i:Nat,i<l.length→Apart (vr vs i) u)
    (HB:Below B W0 W) (hB:B≤W.heap.size) (hl:vs.length≤10000000)
    (h:∀ v1 w1,w1.ownsRow B 145 1 v1 (vs++[u]).length (vs++[u])→FR w1 B (vs++[u]) (l++[y])→Below B W0 w1→wpList Tryz.prog ops Q rest (a.put o.dst v1) w1):wpList Tryz.prog ops Q (o::rest) a (W.alloc (.cells #[u] 145)):=by
  refine print_append (P:=Tryz.prog) (w0:=W0) B hgd s x 40 145 (.slice none 0 0) 24 ho Tryz.underlying40 info_B rfl (by omega) v vs u hs hx h1 HO HB hB (by omega) ?_
  intro v1 w1 hown hb hg hat
  exact h v1 w1 hown ((HF.other HO hg).snoc (RF_other HU HO hg) ha) hb
end
set_option maxHeartbeats 2000000 in
set_option maxRecDepth 100000 in
theorem impl_copyLists (l:List (List Flit)) (A:Option Addr) (c:Nat) (w:World) (hr:(kB 153).C w A l.length l) (hn:l.length≤2097152) (hm:Hid (∀ x∈l,x.length≤2097152)) :
    Calls Tryz.prog 114 #[.slice A l.length c] w fun e w'=>GotOX w w' l e∧Below w.heap.size w w':=by
  go_enter Tryz.func114,Tryz.ntmps114
  go_wp2
  go_loopw [3,9] (fun v i wr=>∃ vs:List Value,i=.int .i64 vs.length∧vs.length≤l.length∧Hid (wr.ownsRow w.heap.size 145 1 v vs.length vs)∧Hid (FR wr w.heap.size vs (l.take vs.length))∧Below w.heap.size w wr) (fun _ i _=>l.length - (intOf i).toNat)
  case atStart=>exact⟨[],rfl,Nat.zero_le _,Lib.hid (own_lit0 (lit_new rfl) (Nat.le_refl _)),Lib.hid (FR.nil _ _),bel⟩
  case round=>
    obtain⟨vs,rfl,hk,HO,HF,HB⟩:=hrel
    obtain⟨Ao,co,rfl⟩:=own_slice HO.out
    have hzr:=bw_size HB
    by_cases hlt:vs.length<l.length
    · have i0:(vs.length:Int)<(l.length:Int):=by omega
      have k0:(0:Int)≤(vs.length:Int):=by omega
      obtain⟨b,off,rfl,hb,Ai,ci,p0,hle,hCi⟩:=rdB_at (Kd.C_below hr HB) vs.length hlt
      have hki:=hm.out _ (rl_mem hlt)
      have HT:=Lib.hid (take_snocB l vs.length hlt)
      have HW:Hid (∀ i:Nat,i<(l.take vs.length).length→Within (vr vs i) w.heap.size wr.heap.size):=Lib.hid (fun i hi=>within_R (HF.out.row i hi))
      go_wp2_with (first|(at_builtin;refine copy_F (B:=w.heap.size) rfl (.tmp 14) (.tmp 15) rfl _ (rl l vs.length) Ai ci rfl rfl (by with_reducible repeat (first|assumption|(refine lit_new ?_;first|done|rfl|(simp only[World.size_alloc,World.size_drew,World.size_setCell];done))|exact lit_new (by simp only[World.size_alloc,World.size_drew,World.size_setCell])|refine lit_stp (by assumption) ?_|refine lit_alloc _ ?_|refine lit_drew ?_)) (by first|omega|(simp only[szs];omega)) (by exact Kd.C_below hCi bel) (by first|omega|(simp only[szs];omega)) (by omega) ?_;intro v1 w1 HO1 Ba ht1;obtain⟨A1,c1,rfl⟩:=Kd.R_slice HO1;have Za:=bw_size Ba;(try simp only[szs] at Za);have HT1:=Lib.hid ht1;clear ht1)|(at_builtin;refine app_row (W0:=w) rfl (.tmp 13) (.tmp 17) rfl _ _ vs (l.take vs.length) (rl l vs.length) rfl (by first|rfl|exact congrArg (fun z=>Value.slice (some ⟨z,0,none⟩) 1 1) (World.size_alloc _ _).symm) rfl (by exact pw_own_below HO.out bel) (by exact HF.out.below bel) HO1 (fun i hi=>apart_of (HW.out i hi) HT1.out (fun k=>by (try simp only[szs]);omega)) bel (by first|omega|(simp only[szs];omega)) (by omega) ?_;intro v2 w2 HO2 HF2 HB2))
      go_roundw
      case rel=>exact⟨vs++[.slice A1 (rl l vs.length).length c1],by rw[List.length_append,List.length_singleton];go_num,by simp;omega,Lib.hid HO2,Lib.hid (by rw[List.length_append,List.length_singleton,HT.out];exact HF2),HB2⟩
      case measure=>simp[intOf];omega
    · have e:vs.length=l.length:=by omega
      have HE:=Lib.hid e
      have i0:¬ (vs.length:Int)<(l.length:Int):=by omega
      clear e
      go_wp2
      have hF:=HF.out
      have hO:=HO.out
      rw[HE.out,List.take_length] at hF
      go_ret
      refine⟨⟨Ao,co,vs,by rw[HE.out];rfl,by rw[HE.out] at hO;exact hO,hF⟩,HB⟩
set_option maxHeartbeats 2000000 in
set_option maxRecDepth 100000 in
theorem spec_l15Lists (l:List (List Flit)) (A:Option Addr) (c:Nat) (w:World) (hr:(kB 153).C w A l.length l) (hn:l.length≤2097152) (hm:Hid (∀ x∈l,x.length≤2097152)) :
    Calls Tryz.prog 204 #[.slice A l.length c] w fun e w'=>GotOX w w' l e∧Below w.heap.size w w':=by
  go_enter Tryz.func204,Tryz.ntmps204
  go_wp2
  go_loopw [3,4] (fun v i wr=>∃ vs:List Value,i=.int .i64 vs.length∧vs.length≤l.length∧Hid (wr.ownsRow w.heap.size 145 1 v vs.length vs)∧Hid (FR wr w.heap.size vs (l.take vs.length))∧Below w.heap.size w wr) (fun _ i _=>l.length - (intOf i).toNat)
  case atStart=>exact⟨[],rfl,Nat.zero_le _,Lib.hid (own_lit0 (lit_new rfl) (Nat.le_refl _)),Lib.hid (FR.nil _ _),bel⟩
  case round=>
    obtain⟨vs,rfl,hk,HO,HF,HB⟩:=hrel
    obtain⟨Ao,co,rfl⟩:=own_slice HO.out
    have hzr:=bw_size HB
    by_cases hlt:vs.length<l.length
    · have i0:(vs.length:Int)<(l.length:Int):=by omega
      have k0:(0:Int)≤(vs.length:Int):=by omega
      obtain⟨b,off,rfl,hb,Ai,ci,p0,hle,hCi⟩:=rdB_at (Kd.C_below hr HB) vs.length hlt
      have hki:=hm.out _ (rl_mem hlt)
      have HT:=Lib.hid (take_snocB l vs.length hlt)
      have HW:Hid (∀ i:Nat,i<(l.take vs.length).length→Within (vr vs i) w.heap.size wr.heap.size):=Lib.hid (fun i hi=>within_R (HF.out.row i hi))
      go_wp2_with (first|(at_builtin;refine copy_F (B:=w.heap.size) rfl (.tmp 13) (.tmp 17) rfl _ (rl l vs.length) Ai ci rfl rfl (by with_reducible repeat (first|assumption|(refine lit_new ?_;first|done|rfl|(simp only[World.size_alloc,World.size_drew,World.size_setCell];done))|exact lit_new (by simp only[World.size_alloc,World.size_drew,World.size_setCell])|refine lit_stp (by assumption) ?_|refine lit_alloc _ ?_|refine lit_drew ?_)) (by first|omega|(simp only[szs];omega)) (by exact Kd.C_below hCi bel) (by first|omega|(simp only[szs];omega)) (by omega) ?_;intro v1 w1 HO1 Ba ht1;obtain⟨A1,c1,rfl⟩:=Kd.R_slice HO1;have Za:=bw_size Ba;(try simp only[szs] at Za);have HT1:=Lib.hid ht1;clear ht1)|(at_builtin;refine app_row (W0:=w) rfl (.tmp 12) (.tmp 19) rfl _ _ vs (l.take vs.length) (rl l vs.length) rfl (by first|rfl|exact congrArg (fun z=>Value.slice (some ⟨z,0,none⟩) 1 1) (World.size_alloc _ _).symm) rfl (by exact pw_own_below HO.out bel) (by exact HF.out.below bel) HO1 (fun i hi=>apart_of (HW.out i hi) HT1.out (fun k=>by (try simp only[szs]);omega)) bel (by first|omega|(simp only[szs];omega)) (by omega) ?_;intro v2 w2 HO2 HF2 HB2))
      go_roundw
      case rel=>exact⟨vs++[.slice A1 (rl l vs.length).length c1],by rw[List.length_append,List.length_singleton];go_num,by simp;omega,Lib.hid HO2,Lib.hid (by rw[List.length_append,List.length_singleton,HT.out];exact HF2),HB2⟩
      case measure=>simp[intOf];omega
    · have e:vs.length=l.length:=by omega
      have HE:=Lib.hid e
      have i0:¬ (vs.length:Int)<(l.length:Int):=by omega
      clear e
      go_wp2
      have hF:=HF.out
      have hO:=HO.out
      rw[HE.out,List.take_length] at hF
      go_ret
      refine⟨⟨Ao,co,vs,by rw[HE.out];rfl,by rw[HE.out] at hO;exact hO,hF⟩,HB⟩
end Go.Proofs.YtodbglncccgdbaaGreat
