/- The law FnExactSoloTime answers true for all arguments, and leaves each as it was. No conditions. -/
import Derived.Test.YtmkbmddgkdoaiaaGreatD20
import Derived.Test.YtmkbmddgkdoaiaaGreatD22
import Derived.Test.YtmkbmddgkdoaiaaGreatD3
import Derived.Test.YtmkbmddgkdoaiaaGreatRows
import Derived.WalkKit
import Derived.ProofKit
import Derived.OpenShut
import Derived.ShutString
import Derived.ChangeOld
import Derived.Below
import Derived.SizedLaws
set_option linter.unusedVariables false
set_option linter.unusedSimpArgs false
namespace Go.Proofs.YtmkbmddgkdoaiaaGreat
open Go.RowKit Go.Proofs.YtmkbmddgkdoaiaaGreatW.PrintWords
open NoC
set_option maxHeartbeats 4000000 in
set_option maxRecDepth 100000 in
theorem law_SoloTime (m : Mesh) (pa pb : List Int) (p : Packet) (A B C : Option Addr) (c d k : Nat) (w : World) (hr : Kd.C (Kd.int .i64) w A m.br.length m.br) (hn : m.br.length ≤ 140737488355328) (ha : Kd.C (Kd.int .i64) w B pa.length pa) (hka : pa.length ≤ 140737488355328) (hb : Kd.C (Kd.int .i64) w C pb.length pb) (hkb : pb.length ≤ 140737488355328) :
    Calls Tryz.prog 5 #[.agg #[.int .i64 m.g.w, .int .i64 m.g.h, .slice A m.br.length c], .agg #[.slice B pa.length d, .slice C pb.length k], .agg #[.int .i64 p.id, .int .i64 p.src, .int .i64 p.dst, .int .i64 p.cls, .int .i64 p.len]] w fun e w' => e = .returned (.bool true) ∧ Below w.heap.size w w' := by
  obtain ⟨r0, r1⟩ := szN_range (n := m.br.length) (left := 1048576) (by omega) (by omega)
  go_enter Tryz.func5, Tryz.ntmps5
  by_cases hs1 : szN m.br.length 1048576 < 0
  · go_wp2_with (go_at_call 20; refine (laws_szMesh m _ A _ _ hn (by omega) (by omega)).mono ?_; rintro e w1 ⟨rfl, hb1⟩; obtain ⟨hc1, hf1, hz1⟩ := bcell hb1; (try simp only [szs] at hz1); have hb2 := far2; obtain ⟨hc2, hf2, hz2⟩ := bcell hb2; (try simp only [szs] at hz2); try (first | obtain ⟨hy1, hy2, hy3, hy4⟩ := lts4 hz2 | obtain ⟨hy1, hy2, hy3⟩ := lts3 hz2 | obtain ⟨hy1, hy2⟩ := lts2 hz2 | have hy1 := lts1 hz2); have hb9 := hb1)
    go_ret
    exact ⟨rfl, bel⟩
  have hn1 := szN_fits hs1
  by_cases hs2 : szClsI pa pb (szN m.br.length 1048576) < 0
  · go_wp2_with (first | (go_at_call 20; refine (laws_szMesh m _ A _ _ hn (by omega) (by omega)).mono ?_; rintro e w1 ⟨rfl, hb1⟩; obtain ⟨hc1, hf1, hz1⟩ := bcell hb1; (try simp only [szs] at hz1); have hb2 := far2; obtain ⟨hc2, hf2, hz2⟩ := bcell hb2; (try simp only [szs] at hz2); try (first | obtain ⟨hy1, hy2, hy3, hy4⟩ := lts4 hz2 | obtain ⟨hy1, hy2, hy3⟩ := lts3 hz2 | obtain ⟨hy1, hy2⟩ := lts2 hz2 | have hy1 := lts1 hz2); have hb9 := hb1) | (go_at_call 21; refine (laws_szClasses pa pb _ B C _ _ _ hka hkb r0 r1).mono ?_; rintro e w1 ⟨rfl, hb1⟩; obtain ⟨hc1, hf1, hz1⟩ := bcell hb1; (try simp only [szs] at hz1); have hb2 := far2; obtain ⟨hc2, hf2, hz2⟩ := bcell hb2; (try simp only [szs] at hz2); try (first | obtain ⟨hy1, hy2, hy3, hy4⟩ := lts4 hz2 | obtain ⟨hy1, hy2, hy3⟩ := lts3 hz2 | obtain ⟨hy1, hy2⟩ := lts2 hz2 | have hy1 := lts1 hz2); have hb9 := hb1))
    go_ret
    exact ⟨rfl, bel⟩
  obtain ⟨hs3, hs4⟩ := szCls_fits hs2
  have hka1 := szN_fits hs3
  have hkb1 := szN_fits hs4
  have hkr := szN_range (n := pa.length) r0 r1
  have hn2 : m.br.length ≤ 2097152 := by omega
  have hka2 : pa.length ≤ 2097152 := by omega
  have hkb2 : pb.length ≤ 2097152 := by omega
  clear hs3 hs4 hka1 hkb1 hkr hn1
  go_wp2_with (first | (go_at_call 20; refine (laws_szMesh m _ A _ _ hn (by omega) (by omega)).mono ?_; rintro e w1 ⟨rfl, hb1⟩; obtain ⟨hc1, hf1, hz1⟩ := bcell hb1; (try simp only [szs] at hz1); have hb2 := far2; obtain ⟨hc2, hf2, hz2⟩ := bcell hb2; (try simp only [szs] at hz2); try (first | obtain ⟨hy1, hy2, hy3, hy4⟩ := lts4 hz2 | obtain ⟨hy1, hy2, hy3⟩ := lts3 hz2 | obtain ⟨hy1, hy2⟩ := lts2 hz2 | have hy1 := lts1 hz2); have hb9 := hb1) | (go_at_call 21; refine (laws_szClasses pa pb _ B C _ _ _ hka hkb r0 r1).mono ?_; rintro e w1 ⟨rfl, hb1⟩; obtain ⟨hc1, hf1, hz1⟩ := bcell hb1; (try simp only [szs] at hz1); have hb2 := far2; obtain ⟨hc2, hf2, hz2⟩ := bcell hb2; (try simp only [szs] at hz2); try (first | obtain ⟨hy1, hy2, hy3, hy4⟩ := lts4 hz2 | obtain ⟨hy1, hy2, hy3⟩ := lts3 hz2 | obtain ⟨hy1, hy2⟩ := lts2 hz2 | have hy1 := lts1 hz2); have hb9 := hb1))
  clear r0 r1 hs1 hs2
  go_wp2_with fail
  go_region_held3 (fun w' => Below (((w.alloc (.cells #[.int .i64 m.g.w, .int .i64 m.g.h, .slice A m.br.length c] 26)).alloc (.cells #[.slice B pa.length d, .slice C pb.length k] 30)).alloc (.cells #[.int .i64 p.id, .int .i64 p.src, .int .i64 p.dst, .int .i64 p.cls, .int .i64 p.len] 53)).heap.size (((w.alloc (.cells #[.int .i64 m.g.w, .int .i64 m.g.h, .slice A m.br.length c] 26)).alloc (.cells #[.slice B pa.length d, .slice C pb.length k] 30)).alloc (.cells #[.int .i64 p.id, .int .i64 p.src, .int .i64 p.dst, .int .i64 p.cls, .int .i64 p.len] 53)) w' ∧ ∀ bq oq, bq < (((w.alloc (.cells #[.int .i64 m.g.w, .int .i64 m.g.h, .slice A m.br.length c] 26)).alloc (.cells #[.slice B pa.length d, .slice C pb.length k] 30)).alloc (.cells #[.int .i64 p.id, .int .i64 p.src, .int .i64 p.dst, .int .i64 p.cls, .int .i64 p.len] 53)).heap.size → w'.cell? ⟨bq, oq, none⟩ = (((w.alloc (.cells #[.int .i64 m.g.w, .int .i64 m.g.h, .slice A m.br.length c] 26)).alloc (.cells #[.slice B pa.length d, .slice C pb.length k] 30)).alloc (.cells #[.int .i64 p.id, .int .i64 p.src, .int .i64 p.dst, .int .i64 p.cls, .int .i64 p.len] 53)).cell? ⟨bq, oq, none⟩) (first | exact far_of bel) ( first | (go_at_call 23; refine (laws_toMesh m A c _ (by exact Kd.C_below hr bel) hn2).mono ?_; rintro e w1 ⟨hg1, hb1⟩; obtain ⟨vm, rfl, HOm⟩ := hg1; obtain ⟨Am, cm, rfl, hlm, hCm⟩ := Kd.R_reads HOm; obtain ⟨hc1, hf1, hz1⟩ := bcell hb1; (try simp only [szs] at hz1); have hb2 := far2; obtain ⟨hc2, hf2, hz2⟩ := bcell hb2; (try simp only [szs] at hz2); try (first | obtain ⟨hy1, hy2, hy3, hy4⟩ := lts4 hz2 | obtain ⟨hy1, hy2, hy3⟩ := lts3 hz2 | obtain ⟨hy1, hy2⟩ := lts2 hz2 | have hy1 := lts1 hz2); have hb9 := hb1) | (go_at_call 24; refine (laws_toClasses pa pb B C d k _ (by exact Kd.C_below ha bel) hka2 (by exact Kd.C_below hb bel) hkb2).mono ?_; rintro e w1 ⟨hg1, hb1⟩; obtain ⟨va, vb, rfl, HOa, HOb, hap⟩ := hg1; obtain ⟨Aa, ca, rfl, hla, hCa⟩ := Kd.R_reads HOa; obtain ⟨Ab, cb, rfl, hlb, hCb⟩ := Kd.R_reads HOb; obtain ⟨hc1, hf1, hz1⟩ := bcell hb1; (try simp only [szs] at hz1); have hb2 := far2; obtain ⟨hc2, hf2, hz2⟩ := bcell hb2; (try simp only [szs] at hz2); try (first | obtain ⟨hy1, hy2, hy3, hy4⟩ := lts4 hz2 | obtain ⟨hy1, hy2, hy3⟩ := lts3 hz2 | obtain ⟨hy1, hy2⟩ := lts2 hz2 | have hy1 := lts1 hz2); have hb9 := hb1) | (go_at_call 25; refine (laws_toPacket p _).mono ?_; rintro e w1 ⟨rfl, hb1⟩; obtain ⟨hc1, hf1, hz1⟩ := bcell hb1; (try simp only [szs] at hz1); have hb2 := far2; obtain ⟨hc2, hf2, hz2⟩ := bcell hb2; (try simp only [szs] at hz2); try (first | obtain ⟨hy1, hy2, hy3, hy4⟩ := lts4 hz2 | obtain ⟨hy1, hy2, hy3⟩ := lts3 hz2 | obtain ⟨hy1, hy2⟩ := lts2 hz2 | have hy1 := lts1 hz2); have hb9 := hb1) | (go_at_call 22; refine (spec_SoloTime m pa pb p _ _ _ _ _ _ _ (by exact Kd.C_below hCm bel) hn2 (by exact Kd.C_below hCa bel) hka2 (by exact Kd.C_below hCb bel) hkb2).mono ?_; rintro e w1 ⟨rfl, hb1⟩; obtain ⟨hc1, hf1, hz1⟩ := bcell hb1; (try simp only [szs] at hz1); have hb2 := far2; obtain ⟨hc2, hf2, hz2⟩ := bcell hb2; (try simp only [szs] at hz2); try (first | obtain ⟨hy1, hy2, hy3, hy4⟩ := lts4 hz2 | obtain ⟨hy1, hy2, hy3⟩ := lts3 hz2 | obtain ⟨hy1, hy2⟩ := lts2 hz2 | have hy1 := lts1 hz2); have hb9 := hb1))
  have Hb2 := hb2
  repeat (first | clear hc1 | clear hf1 | clear hz1 | clear hb1 | clear hb9 | clear hc2 | clear hf2 | clear hz2 | clear hb2 | clear hy1 | clear hy2 | clear hy3 | clear hy4 | clear hap | clear HOm | clear HOa | clear HOb | clear HOp | clear hlm | clear hla | clear hlb | clear hlp | clear hCm | clear hCa | clear hCb | clear hCp | clear Am | clear Aa | clear Ab | clear Ap | clear cm | clear ca | clear cb | clear cp | clear w1)
  have hb2 := Hb2
  clear Hb2
  obtain ⟨hc2, hf2, hz2⟩ := bcell hb2
  simp only [szs] at hz2
  obtain ⟨hy1, hy2, hy3⟩ := lts3 hz2
  go_wp2_with (go_at_call 23; refine (laws_toMesh m A c _ (by exact Kd.C_below hr bel) hn2).mono ?_; rintro e w1 ⟨hg1, hb1⟩; obtain ⟨vm, rfl, HOm⟩ := hg1; obtain ⟨Am, cm, rfl, hlm, hCm⟩ := Kd.R_reads HOm; obtain ⟨hc1, hf1, hz1⟩ := bcell hb1; (try simp only [szs] at hz1); have hb2 := far2; obtain ⟨hc2, hf2, hz2⟩ := bcell hb2; (try simp only [szs] at hz2); try (first | obtain ⟨hy1, hy2, hy3, hy4⟩ := lts4 hz2 | obtain ⟨hy1, hy2, hy3⟩ := lts3 hz2 | obtain ⟨hy1, hy2⟩ := lts2 hz2 | have hy1 := lts1 hz2); have hb9 := hb1)
  obtain ⟨Ax, rfl⟩ : ∃ x, x = Am := ⟨_, rfl⟩
  obtain ⟨cx, rfl⟩ : ∃ x, x = cm := ⟨_, rfl⟩
  obtain ⟨w2, rfl⟩ : ∃ x, x = w1 := ⟨_, rfl⟩
  have HX := HOm
  go_wp2_with (go_at_call 24; refine (laws_toClasses pa pb B C d k _ (by exact Kd.C_below ha bel) hka2 (by exact Kd.C_below hb bel) hkb2).mono ?_; rintro e w1 ⟨hg1, hb1⟩; obtain ⟨va, vb, rfl, HOa, HOb, hap⟩ := hg1; obtain ⟨Aa, ca, rfl, hla, hCa⟩ := Kd.R_reads HOa; obtain ⟨Ab, cb, rfl, hlb, hCb⟩ := Kd.R_reads HOb; obtain ⟨hc1, hf1, hz1⟩ := bcell hb1; (try simp only [szs] at hz1); have hb2 := far2; obtain ⟨hc2, hf2, hz2⟩ := bcell hb2; (try simp only [szs] at hz2); try (first | obtain ⟨hy1, hy2, hy3, hy4⟩ := lts4 hz2 | obtain ⟨hy1, hy2, hy3⟩ := lts3 hz2 | obtain ⟨hy1, hy2⟩ := lts2 hz2 | have hy1 := lts1 hz2); have hb9 := hb1)
  obtain ⟨Ay, rfl⟩ : ∃ x, x = Aa := ⟨_, rfl⟩
  obtain ⟨cy, rfl⟩ : ∃ x, x = ca := ⟨_, rfl⟩
  obtain ⟨Az, rfl⟩ : ∃ x, x = Ab := ⟨_, rfl⟩
  obtain ⟨cz, rfl⟩ : ∃ x, x = cb := ⟨_, rfl⟩
  obtain ⟨w3, rfl⟩ : ∃ x, x = w1 := ⟨_, rfl⟩
  have H0 := bw_alloc (.cells #[.slice Ay pa.length cy, .slice Az pb.length cz] 41) (bw_then (by with_reducible repeat (first | exact bw_refl _ | apply bw_alloc)) hb2 : Below w.heap.size w w3)
  have HX := Kd.R_below (Kd.R_below (Kd.R_below HX (bw_alloc (.cells #[.int .i64 m.g.w, .int .i64 m.g.h, .slice Ax m.br.length cx] 38) (bw_refl w2))) hb1) (bw_alloc (.cells #[.slice Ay pa.length cy, .slice Az pb.length cz] 41) (bw_refl w3))
  have HY := Kd.R_below HOa (bw_alloc (.cells #[.slice Ay pa.length cy, .slice Az pb.length cz] 41) (bw_refl w3))
  have HZ := Kd.R_below HOb (bw_alloc (.cells #[.slice Ay pa.length cy, .slice Az pb.length cz] 41) (bw_refl w3))
  have B3 : Box (w3.alloc (.cells #[.slice Ay pa.length cy, .slice Az pb.length cz] 41)) w.heap.size #[.int .i64 m.g.w, .int .i64 m.g.h, .slice A m.br.length c] := (Box.below (((Box.new w _ _ _ rfl).alloc _).alloc _) hb2).alloc _
  have B4 : Box (w3.alloc (.cells #[.slice Ay pa.length cy, .slice Az pb.length cz] 41)) (w.heap.size + 1) #[.slice B pa.length d, .slice C pb.length k] := (Box.below ((Box.new (w.alloc _) _ _ _ (by rw [World.size_alloc])).alloc _) hb2).alloc _
  have B5 : Box (w3.alloc (.cells #[.slice Ay pa.length cy, .slice Az pb.length cz] 41)) (w.heap.size + 1 + 1) #[.int .i64 p.id, .int .i64 p.src, .int .i64 p.dst, .int .i64 p.cls, .int .i64 p.len] := (Box.below (Box.new ((w.alloc _).alloc _) _ _ _ (by rw [World.size_alloc, World.size_alloc])) hb2).alloc _
  have B6 : Box (w3.alloc (.cells #[.slice Ay pa.length cy, .slice Az pb.length cz] 41)) w2.heap.size #[.int .i64 m.g.w, .int .i64 m.g.h, .slice Ax m.br.length cx] := (Box.below (Box.new w2 _ _ _ rfl) hb1).alloc _
  have B7 : Box (w3.alloc (.cells #[.slice Ay pa.length cy, .slice Az pb.length cz] 41)) w3.heap.size #[.slice Ay pa.length cy, .slice Az pb.length cz] := Box.new w3 _ _ _ rfl
  repeat (first | clear hc1 | clear hf1 | clear hz1 | clear hb1 | clear hb9 | clear hc2 | clear hf2 | clear hz2 | clear hb2 | clear hy1 | clear hy2 | clear hy3 | clear hy4 | clear hap | clear HOm | clear HOa | clear HOb | clear HOp | clear hlm | clear hla | clear hlb | clear hlp | clear hCm | clear hCa | clear hCb | clear hCp | clear Am | clear Aa | clear Ab | clear Ap | clear cm | clear ca | clear cb | clear cp | clear w1)
  generalize hW : w3.alloc (.cells #[.slice Ay pa.length cy, .slice Az pb.length cz] 41) = w4 at *
  clear hW
  obtain ⟨y3, g3⟩ := B3
  obtain ⟨y4, g4⟩ := B4
  obtain ⟨y5, g5⟩ := B5
  obtain ⟨y6, g6⟩ := B6
  obtain ⟨y7, g7⟩ := B7
  obtain ⟨_, hlx, hCx⟩ := Kd.R_row HX
  obtain ⟨_, hly, hCy⟩ := Kd.R_row HY
  obtain ⟨_, hlz, hCz⟩ := Kd.R_row HZ
  have hb2 := bw_refl w4
  go_region_held3 (fun w' => Below (w4).heap.size (w4) w' ∧ ∀ bq oq, bq < (w4).heap.size → w'.cell? ⟨bq, oq, none⟩ = (w4).cell? ⟨bq, oq, none⟩) (first | exact far_of bel) ( first | (go_at_call 25; refine (laws_toPacket p _).mono ?_; rintro e w1 ⟨rfl, hb1⟩; obtain ⟨hc1, hf1, hz1⟩ := bcell hb1; (try simp only [szs] at hz1); have hb2 := far2; obtain ⟨hc2, hf2, hz2⟩ := bcell hb2; (try simp only [szs] at hz2); try (first | obtain ⟨hy1, hy2, hy3, hy4⟩ := lts4 hz2 | obtain ⟨hy1, hy2, hy3⟩ := lts3 hz2 | obtain ⟨hy1, hy2⟩ := lts2 hz2 | have hy1 := lts1 hz2); have hb9 := hb1) | (go_at_call 26; refine (impl_SoloTime m pa pb p _ _ _ _ _ _ _ (by exact Kd.C_below hCx bel) hn2 (by exact Kd.C_below hCy bel) hka2 (by exact Kd.C_below hCz bel) hkb2).mono ?_; rintro e w1 ⟨rfl, hb1⟩; obtain ⟨hc1, hf1, hz1⟩ := bcell hb1; (try simp only [szs] at hz1); have hb2 := far2; obtain ⟨hc2, hf2, hz2⟩ := bcell hb2; (try simp only [szs] at hz2); try (first | obtain ⟨hy1, hy2, hy3, hy4⟩ := lts4 hz2 | obtain ⟨hy1, hy2, hy3⟩ := lts3 hz2 | obtain ⟨hy1, hy2⟩ := lts2 hz2 | have hy1 := lts1 hz2); have hb9 := hb1))
  have H0 := bw_then H0 hb2
  have B3 := Box.below ⟨y3, g3⟩ hb2
  have B4 := Box.below ⟨y4, g4⟩ hb2
  have B5 := Box.below ⟨y5, g5⟩ hb2
  have B6 := Box.below ⟨y6, g6⟩ hb2
  have B7 := Box.below ⟨y7, g7⟩ hb2
  have HX := Kd.R_below HX hb2
  have HY := Kd.R_below HY hb2
  have HZ := Kd.R_below HZ hb2
  repeat (first | clear hc1 | clear hf1 | clear hz1 | clear hb1 | clear hb9 | clear hc2 | clear hf2 | clear hz2 | clear hb2 | clear hy1 | clear hy2 | clear hy3 | clear hy4 | clear hap | clear HOm | clear HOa | clear HOb | clear HOp | clear hlm | clear hla | clear hlb | clear hlp | clear hCm | clear hCa | clear hCb | clear hCp | clear Am | clear Aa | clear Ab | clear Ap | clear cm | clear ca | clear cb | clear cp | clear w1)
  obtain ⟨y3, g3⟩ := B3
  obtain ⟨y4, g4⟩ := B4
  obtain ⟨y5, g5⟩ := B5
  obtain ⟨y6, g6⟩ := B6
  obtain ⟨y7, g7⟩ := B7
  obtain ⟨w5, rfl⟩ : ∃ x, x = w1 := ⟨_, rfl⟩
  obtain ⟨_, hlx, hCx⟩ := Kd.R_row HX
  obtain ⟨_, hly, hCy⟩ := Kd.R_row HY
  obtain ⟨_, hlz, hCz⟩ := Kd.R_row HZ
  have hb2 := bw_refl w5
  go_wp2_with fail
  go_region_held3 (fun w' => Below (w5).heap.size (w5) w' ∧ ∀ bq oq, bq < (w5).heap.size → w'.cell? ⟨bq, oq, none⟩ = (w5).cell? ⟨bq, oq, none⟩) (first | exact far_of bel) ( first | (go_at_call 23; refine (laws_toMesh m A c _ (by exact Kd.C_below hr bel) hn2).mono ?_; rintro e w1 ⟨hg1, hb1⟩; obtain ⟨vm, rfl, HOm⟩ := hg1; obtain ⟨Am, cm, rfl, hlm, hCm⟩ := Kd.R_reads HOm; obtain ⟨hc1, hf1, hz1⟩ := bcell hb1; (try simp only [szs] at hz1); have hb2 := far2; obtain ⟨hc2, hf2, hz2⟩ := bcell hb2; (try simp only [szs] at hz2); try (first | obtain ⟨hy1, hy2, hy3, hy4⟩ := lts4 hz2 | obtain ⟨hy1, hy2, hy3⟩ := lts3 hz2 | obtain ⟨hy1, hy2⟩ := lts2 hz2 | have hy1 := lts1 hz2); have hb9 := hb1) | (go_at_call 27; refine (laws_eqMesh m m _ _ _ _ _ (by exact Kd.C_below hCx bel) hn2 (by exact Kd.C_below hCm bel) hn2).mono ?_; rintro e w1 ⟨he, hb1⟩; rw [mesh_self m] at he; subst he; obtain ⟨hc1, hf1, hz1⟩ := bcell hb1; (try simp only [szs] at hz1); have hb2 := far2; obtain ⟨hc2, hf2, hz2⟩ := bcell hb2; (try simp only [szs] at hz2); try (first | obtain ⟨hy1, hy2, hy3, hy4⟩ := lts4 hz2 | obtain ⟨hy1, hy2, hy3⟩ := lts3 hz2 | obtain ⟨hy1, hy2⟩ := lts2 hz2 | have hy1 := lts1 hz2); have hb9 := hb1))
  have H0 := bw_then H0 hb2
  have B3 := Box.below ⟨y3, g3⟩ hb2
  have B4 := Box.below ⟨y4, g4⟩ hb2
  have B5 := Box.below ⟨y5, g5⟩ hb2
  have B6 := Box.below ⟨y6, g6⟩ hb2
  have B7 := Box.below ⟨y7, g7⟩ hb2
  have HX := Kd.R_below HX hb2
  have HY := Kd.R_below HY hb2
  have HZ := Kd.R_below HZ hb2
  repeat (first | clear hc1 | clear hf1 | clear hz1 | clear hb1 | clear hb9 | clear hc2 | clear hf2 | clear hz2 | clear hb2 | clear hy1 | clear hy2 | clear hy3 | clear hy4 | clear hap | clear HOm | clear HOa | clear HOb | clear HOp | clear hlm | clear hla | clear hlb | clear hlp | clear hCm | clear hCa | clear hCb | clear hCp | clear Am | clear Aa | clear Ab | clear Ap | clear cm | clear ca | clear cb | clear cp | clear w1)
  obtain ⟨y3, g3⟩ := B3
  obtain ⟨y4, g4⟩ := B4
  obtain ⟨y5, g5⟩ := B5
  obtain ⟨y6, g6⟩ := B6
  obtain ⟨y7, g7⟩ := B7
  obtain ⟨w6, rfl⟩ : ∃ x, x = w1 := ⟨_, rfl⟩
  obtain ⟨_, hlx, hCx⟩ := Kd.R_row HX
  obtain ⟨_, hly, hCy⟩ := Kd.R_row HY
  obtain ⟨_, hlz, hCz⟩ := Kd.R_row HZ
  have hb2 := bw_refl w6
  go_wp2_with fail
  go_region_held3 (fun w' => Below (w6).heap.size (w6) w' ∧ ∀ bq oq, bq < (w6).heap.size → w'.cell? ⟨bq, oq, none⟩ = (w6).cell? ⟨bq, oq, none⟩) (first | exact far_of bel) ( first | (go_at_call 24; refine (laws_toClasses pa pb B C d k _ (by exact Kd.C_below ha bel) hka2 (by exact Kd.C_below hb bel) hkb2).mono ?_; rintro e w1 ⟨hg1, hb1⟩; obtain ⟨va, vb, rfl, HOa, HOb, hap⟩ := hg1; obtain ⟨Aa, ca, rfl, hla, hCa⟩ := Kd.R_reads HOa; obtain ⟨Ab, cb, rfl, hlb, hCb⟩ := Kd.R_reads HOb; obtain ⟨hc1, hf1, hz1⟩ := bcell hb1; (try simp only [szs] at hz1); have hb2 := far2; obtain ⟨hc2, hf2, hz2⟩ := bcell hb2; (try simp only [szs] at hz2); try (first | obtain ⟨hy1, hy2, hy3, hy4⟩ := lts4 hz2 | obtain ⟨hy1, hy2, hy3⟩ := lts3 hz2 | obtain ⟨hy1, hy2⟩ := lts2 hz2 | have hy1 := lts1 hz2); have hb9 := hb1) | (go_at_call 28; refine (laws_eqClasses pa pb _ _ _ _ _ _ _ _ _ (by exact Kd.C_below hCy bel) hka2 (by exact Kd.C_below hCz bel) hkb2 (by exact Kd.C_below hCa bel) (by exact Kd.C_below hCb bel)).mono ?_; rintro e w1 ⟨rfl, hb1⟩; obtain ⟨hc1, hf1, hz1⟩ := bcell hb1; (try simp only [szs] at hz1); have hb2 := far2; obtain ⟨hc2, hf2, hz2⟩ := bcell hb2; (try simp only [szs] at hz2); try (first | obtain ⟨hy1, hy2, hy3, hy4⟩ := lts4 hz2 | obtain ⟨hy1, hy2, hy3⟩ := lts3 hz2 | obtain ⟨hy1, hy2⟩ := lts2 hz2 | have hy1 := lts1 hz2); have hb9 := hb1))
  have H0 := bw_then H0 hb2
  have B3 := Box.below ⟨y3, g3⟩ hb2
  have B4 := Box.below ⟨y4, g4⟩ hb2
  have B5 := Box.below ⟨y5, g5⟩ hb2
  have B6 := Box.below ⟨y6, g6⟩ hb2
  have B7 := Box.below ⟨y7, g7⟩ hb2
  have HX := Kd.R_below HX hb2
  have HY := Kd.R_below HY hb2
  have HZ := Kd.R_below HZ hb2
  repeat (first | clear hc1 | clear hf1 | clear hz1 | clear hb1 | clear hb9 | clear hc2 | clear hf2 | clear hz2 | clear hb2 | clear hy1 | clear hy2 | clear hy3 | clear hy4 | clear hap | clear HOm | clear HOa | clear HOb | clear HOp | clear hlm | clear hla | clear hlb | clear hlp | clear hCm | clear hCa | clear hCb | clear hCp | clear Am | clear Aa | clear Ab | clear Ap | clear cm | clear ca | clear cb | clear cp | clear w1)
  go_wp2
  go_ret
  exact ⟨rfl, bel⟩
end Go.Proofs.YtmkbmddgkdoaiaaGreat
namespace Go.Proofs.YtmkbmddgkdoaiaaGreat
open Go.ChangeShapes Go.WideShapes Go.ChangeAt Go.RowKit Go.Proofs.YtmkbmddgkdoaiaaGreatW.PrintWords
open NoC
set_option linter.unusedVariables false
theorem own : ownKnob Tryz.prog.godebug = none := by kernel_rfl
theorem laidOut : laidOutB Tryz.prog = true := by kernel_rfl
theorem arr_of {cs : Array Value} {l : List Value} (h : cs.toList = l) : cs = l.toArray := by rw [← h]
set_option maxHeartbeats 1000000 in
set_option maxRecDepth 100000 in
theorem lifted_SoloTime (os : Os) (started : os.Started) (H : Type) (enc : TypeId × Value → H) :
    ReturnsInHanded {} Tryz.checked os 5 .any (Rows.fnExactSoloTimeSpec.pre6 enc Tryz.prog Tryz.f5 Rows.fnExactSoloTimeRow.domain false) (Rows.fnExactSoloTimeSpec.post enc Tryz.prog Tryz.f5 false true false false) := by
  refine returnsInHanded_of_change_sized (C := Tryz.checked) own started (by kernel_rfl) Tryz.func5
    (ChangeSpec.witness6 (enc := enc) (C := Tryz.checked) false ⟨#[], #[.agg #[.int .i64 0, .int .i64 0, .slice none 0 0], .agg #[.slice none 0 0, .slice none 0 0], .agg #[.int .i64 0, .int .i64 0, .int .i64 0, .int .i64 0, .int .i64 0]], []⟩ 8 (by kernel_rfl) (by kernel_rfl) (by kernel_rfl) (by kernel_rfl)) ?_
  intro W base args ds gs before hval0 hW hcnd hsz0 _
  have hsz : (DataW.weightsEach Tryz.prog (Tryz.f5.params.toList ++ Rows.fnExactSoloTimeSpec.plain.varTypes Tryz.prog) (ds ++ gs)).all (· ≤ reachBytes) = true := hsz0
  have hval : ∀ (j : Nat) t v, Tryz.f5.params[j]? = some t → args[j]? = some v → Value.okWide Tryz.prog W .any base t v := hval0
  have hW' := hW
  obtain ⟨p, q, hA0, hV, rfl, hfz, hnd⟩ := hW
  have hA : DataW.TrodAll enc Tryz.prog W 0 (fun _ => true) true Tryz.f5.params.toList args.toList ds p := hA0
  rw [Tryz.params5] at hA hval hsz
  obtain ⟨v0, vs0, d0, ds0, p0, q0, hargs, rfl, rfl, h0, r0⟩ := trodAll_cons hA
  obtain ⟨v1, vs1, d1, ds1, p1, q1, rfl, rfl, rfl, h1, r1⟩ := trodAll_cons r0
  obtain ⟨v2, vs2, d2, ds2, p2, q2, rfl, rfl, rfl, h2, r2⟩ := trodAll_cons r1
  obtain ⟨rfl, rfl, rfl⟩ := trodAll_nil r2
  obtain rfl : args = #[v0, v1, v2] := by cases args; simp_all
  obtain ⟨rfl, rfl⟩ := trodVars_none hV
  obtain ⟨c0, rfl, _⟩ := okWide_struct Tryz.underlying26 (hval 0 _ v0 rfl rfl)
  obtain ⟨c1, rfl, _⟩ := okWide_struct Tryz.underlying30 (hval 1 _ v1 rfl rfl)
  obtain ⟨c2, rfl, _⟩ := okWide_struct Tryz.underlying53 (hval 2 _ v2 rfl rfl)
  have k0 := h0
  have lt0 : ∀ x ∈ p0, x.block < W.heap.size := by obtain ⟨m, hm⟩ := k0; exact DataW.trod_lt m _ _ _ hm
  have k1 := h1
  have lt1 : ∀ x ∈ p1, x.block < W.heap.size := by obtain ⟨m, hm⟩ := k1; exact DataW.trod_lt m _ _ _ hm
  have k2 := h2
  have lt2 : ∀ x ∈ p2, x.block < W.heap.size := by obtain ⟨m, hm⟩ := k2; exact DataW.trod_lt m _ _ _ hm
  obtain ⟨f0, g0⟩ := h0
  obtain ⟨f1, g1⟩ := h1
  obtain ⟨f2, g2⟩ := h2
  obtain ⟨m0, A0, a0, e0, hm0, hmn0⟩ := op_mesh g0 (light_arg hsz (j := 0) rfl rfl)
  obtain rfl := arr_of e0
  obtain ⟨A1, a1, l1, B1, b1, k1', e1, ha1, han1, hb1, hbn1⟩ := op_classes g1 (light_arg hsz (j := 1) rfl rfl)
  obtain rfl := arr_of e1
  obtain ⟨x2, e2⟩ := op_packet g2 (light_arg hsz (j := 2) rfl rfl)
  obtain rfl := arr_of e2
  clear hA0 hval0 hsz0 hsz
  refine (law_SoloTime m0 l1 k1' x2 A0 A1 B1 a0 a1 b1 W hm0 hmn0 ha1 han1 hb1 hbn1).mono fun e W' ⟨he, bel⟩ => ?_
  subst he
  exact ⟨_, rfl, _, _, _, [], _, [], hW', trodAll_mk1 (shut_bool Tryz.underlying4 _), (trodAll_cons_mk (Below.trod laidOut (by kernel_rfl) (of_decide_eq_true (by kernel_rfl)) k0 bel lt0) (trodAll_cons_mk (Below.trod laidOut (by kernel_rfl) (of_decide_eq_true (by kernel_rfl)) k1 bel lt1) (trodAll_cons_mk (Below.trod laidOut (by kernel_rfl) (of_decide_eq_true (by kernel_rfl)) k2 bel lt2) trodAll_mk0))), rfl, bel.frame _, fun h => by cases h⟩
theorem over_SoloTime : Rows.fnExactSoloTimeRow.holds Tryz.pinned (OpenSpec.ofChange Rows.fnExactSoloTimeSpec) :=
  OpenClaim.holds_of_wide 5 Tryz.f5 rfl rfl rfl rfl rfl rfl rfl ⟨rfl, rfl, rfl, rfl, rfl⟩ rfl rfl rfl rfl rfl (by kernel_rfl) Tryz.func5 (by kernel_rfl)
    (of_decide_eq_true (by kernel_rfl)) (by unfold Func.isWrapper; first | (rw [if_pos (by decide +kernel)]; kernel_rfl) | (rw [if_neg (by decide +kernel)]; exact ⟨rfl, rfl⟩))
    (fun os started H enc _ => lifted_SoloTime os started H enc)
theorem fnExactSoloTime_holds : Rows.FnExactSoloTimeSaid := over_SoloTime
#print axioms fnExactSoloTime_holds
end Go.Proofs.YtmkbmddgkdoaiaaGreat
