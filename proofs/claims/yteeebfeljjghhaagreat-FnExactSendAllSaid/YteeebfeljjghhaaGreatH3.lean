/- Lemmas for laws of this seat, for all inputs: Load LawI Box Flat LawP Mark NetB Fl. -/
import Derived.Test.YteeebfeljjghhaaGreatH2
/- Packets, classes and the zero-load time; for all meshes, tables and lists of at most a million entries. -/
set_option linter.unusedVariables false
set_option linter.unusedSimpArgs false
namespace Go.Proofs.YteeebfeljjghhaaGreat
open Go.RowKit Go.Proofs.YteeebfeljjghhaaGreatW.PrintWords
open NoC

theorem impl_PacketOk (g : Grid) (p : Packet) (w : World) : Calls Tryz.prog 133 #[.agg #[.int .i64 g.w, .int .i64 g.h], .agg #[.int .i64 p.id, .int .i64 p.src, .int .i64 p.dst, .int .i64 p.cls, .int .i64 p.len]] w fun e w' => e = .returned (.bool (packetOk g p)) ∧ Below w.heap.size w w' := by
  go_enter Tryz.func133, Tryz.ntmps133
  cases h1 : inside p.id 1 9999
  · go_wp2_with (first | (go_at_call 94; refine (impl_inside _ _ _ _).mono ?_; rintro e w' ⟨rfl, rfl⟩) | (go_at_call 123; refine (impl_isNode g _ _).mono ?_; rintro e w1 ⟨rfl, hb1⟩; obtain ⟨hc1, hf1, hz1⟩ := bcell hb1; (try simp only [szs] at hz1); have hb2 := (by first | exact bw_then hb2 hb1 | exact bw_then (bw_drewN _ hb2) hb1 | exact bw_then (bw_alloc _ hb2) hb1 | exact bw_then (bw_drew hb2) hb1 | exact bw_then HB hb1 | exact bw_then (bw_drewN _ HB) hb1 | exact bw_then (bw_alloc _ HB) hb1 | exact bw_then (bw_drew HB) hb1 | exact hb1); obtain ⟨hc2, hf2, hz2⟩ := bcell hb2; (try simp only [szs] at hz2); try (first | obtain ⟨hy1, hy2, hy3, hy4⟩ := lts4 hz2 | obtain ⟨hy1, hy2, hy3⟩ := lts3 hz2 | obtain ⟨hy1, hy2⟩ := lts2 hz2 | have hy1 := lts1 hz2); have hb9 := hb1))
    go_ret
    exact ⟨ret_bool (by simp [packetOk, h1]), bel⟩
  cases h2 : isNode g p.src
  · go_wp2_with (first | (go_at_call 94; refine (impl_inside _ _ _ _).mono ?_; rintro e w' ⟨rfl, rfl⟩) | (go_at_call 123; refine (impl_isNode g _ _).mono ?_; rintro e w1 ⟨rfl, hb1⟩; obtain ⟨hc1, hf1, hz1⟩ := bcell hb1; (try simp only [szs] at hz1); have hb2 := (by first | exact bw_then hb2 hb1 | exact bw_then (bw_drewN _ hb2) hb1 | exact bw_then (bw_alloc _ hb2) hb1 | exact bw_then (bw_drew hb2) hb1 | exact bw_then HB hb1 | exact bw_then (bw_drewN _ HB) hb1 | exact bw_then (bw_alloc _ HB) hb1 | exact bw_then (bw_drew HB) hb1 | exact hb1); obtain ⟨hc2, hf2, hz2⟩ := bcell hb2; (try simp only [szs] at hz2); try (first | obtain ⟨hy1, hy2, hy3, hy4⟩ := lts4 hz2 | obtain ⟨hy1, hy2, hy3⟩ := lts3 hz2 | obtain ⟨hy1, hy2⟩ := lts2 hz2 | have hy1 := lts1 hz2); have hb9 := hb1))
    go_ret
    exact ⟨ret_bool (by simp [packetOk, h2]), bel⟩
  cases h3 : isNode g p.dst
  · go_wp2_with (first | (go_at_call 94; refine (impl_inside _ _ _ _).mono ?_; rintro e w' ⟨rfl, rfl⟩) | (go_at_call 123; refine (impl_isNode g _ _).mono ?_; rintro e w1 ⟨rfl, hb1⟩; obtain ⟨hc1, hf1, hz1⟩ := bcell hb1; (try simp only [szs] at hz1); have hb2 := (by first | exact bw_then hb2 hb1 | exact bw_then (bw_drewN _ hb2) hb1 | exact bw_then (bw_alloc _ hb2) hb1 | exact bw_then (bw_drew hb2) hb1 | exact bw_then HB hb1 | exact bw_then (bw_drewN _ HB) hb1 | exact bw_then (bw_alloc _ HB) hb1 | exact bw_then (bw_drew HB) hb1 | exact hb1); obtain ⟨hc2, hf2, hz2⟩ := bcell hb2; (try simp only [szs] at hz2); try (first | obtain ⟨hy1, hy2, hy3, hy4⟩ := lts4 hz2 | obtain ⟨hy1, hy2, hy3⟩ := lts3 hz2 | obtain ⟨hy1, hy2⟩ := lts2 hz2 | have hy1 := lts1 hz2); have hb9 := hb1))
    go_ret
    exact ⟨ret_bool (by simp [packetOk, h3]), bel⟩
  by_cases h4 : p.src = p.dst
  · have e4 : (p.src != p.dst) = false := bne_eq_false_iff_eq.2 h4
    have H4 := Lib.hid h4
    clear h4
    go_wp2_with (first | (go_at_call 94; refine (impl_inside _ _ _ _).mono ?_; rintro e w' ⟨rfl, rfl⟩) | (go_at_call 123; refine (impl_isNode g _ _).mono ?_; rintro e w1 ⟨rfl, hb1⟩; obtain ⟨hc1, hf1, hz1⟩ := bcell hb1; (try simp only [szs] at hz1); have hb2 := (by first | exact bw_then hb2 hb1 | exact bw_then (bw_drewN _ hb2) hb1 | exact bw_then (bw_alloc _ hb2) hb1 | exact bw_then (bw_drew hb2) hb1 | exact bw_then HB hb1 | exact bw_then (bw_drewN _ HB) hb1 | exact bw_then (bw_alloc _ HB) hb1 | exact bw_then (bw_drew HB) hb1 | exact hb1); obtain ⟨hc2, hf2, hz2⟩ := bcell hb2; (try simp only [szs] at hz2); try (first | obtain ⟨hy1, hy2, hy3, hy4⟩ := lts4 hz2 | obtain ⟨hy1, hy2, hy3⟩ := lts3 hz2 | obtain ⟨hy1, hy2⟩ := lts2 hz2 | have hy1 := lts1 hz2); have hb9 := hb1))
    go_ret
    exact ⟨ret_bool (by simp [packetOk, H4.out]), bel⟩
  have e4 : (p.src != p.dst) = true := bne_iff_ne.2 h4
  have H4 := Lib.hid h4
  clear h4
  cases h5 : inside p.cls 0 1
  · go_wp2_with (first | (go_at_call 94; refine (impl_inside _ _ _ _).mono ?_; rintro e w' ⟨rfl, rfl⟩) | (go_at_call 123; refine (impl_isNode g _ _).mono ?_; rintro e w1 ⟨rfl, hb1⟩; obtain ⟨hc1, hf1, hz1⟩ := bcell hb1; (try simp only [szs] at hz1); have hb2 := (by first | exact bw_then hb2 hb1 | exact bw_then (bw_drewN _ hb2) hb1 | exact bw_then (bw_alloc _ hb2) hb1 | exact bw_then (bw_drew hb2) hb1 | exact bw_then HB hb1 | exact bw_then (bw_drewN _ HB) hb1 | exact bw_then (bw_alloc _ HB) hb1 | exact bw_then (bw_drew HB) hb1 | exact hb1); obtain ⟨hc2, hf2, hz2⟩ := bcell hb2; (try simp only [szs] at hz2); try (first | obtain ⟨hy1, hy2, hy3, hy4⟩ := lts4 hz2 | obtain ⟨hy1, hy2, hy3⟩ := lts3 hz2 | obtain ⟨hy1, hy2⟩ := lts2 hz2 | have hy1 := lts1 hz2); have hb9 := hb1))
    go_ret
    exact ⟨ret_bool (by simp [packetOk, h5]), bel⟩
  · go_wp2_with (first | (go_at_call 94; refine (impl_inside _ _ _ _).mono ?_; rintro e w' ⟨rfl, rfl⟩) | (go_at_call 123; refine (impl_isNode g _ _).mono ?_; rintro e w1 ⟨rfl, hb1⟩; obtain ⟨hc1, hf1, hz1⟩ := bcell hb1; (try simp only [szs] at hz1); have hb2 := (by first | exact bw_then hb2 hb1 | exact bw_then (bw_drewN _ hb2) hb1 | exact bw_then (bw_alloc _ hb2) hb1 | exact bw_then (bw_drew hb2) hb1 | exact bw_then HB hb1 | exact bw_then (bw_drewN _ HB) hb1 | exact bw_then (bw_alloc _ HB) hb1 | exact bw_then (bw_drew HB) hb1 | exact hb1); obtain ⟨hc2, hf2, hz2⟩ := bcell hb2; (try simp only [szs] at hz2); try (first | obtain ⟨hy1, hy2, hy3, hy4⟩ := lts4 hz2 | obtain ⟨hy1, hy2, hy3⟩ := lts3 hz2 | obtain ⟨hy1, hy2⟩ := lts2 hz2 | have hy1 := lts1 hz2); have hb9 := hb1))
    go_ret
    exact ⟨ret_bool (by simp [packetOk, h1, h2, h3, H4.out, h5]), bel⟩

theorem spec_PacketOk (g : Grid) (p : Packet) (w : World) : Calls Tryz.prog 111 #[.agg #[.int .i64 g.w, .int .i64 g.h], .agg #[.int .i64 p.id, .int .i64 p.src, .int .i64 p.dst, .int .i64 p.cls, .int .i64 p.len]] w fun e w' => e = .returned (.bool (packetOk g p)) ∧ Below w.heap.size w w' := by
  go_enter Tryz.func111, Tryz.ntmps111
  cases h1 : inside p.id 1 9999
  · go_wp2_with (first | (go_at_call 59; refine (spec_l01In _ _ _ _).mono ?_; rintro e w' ⟨rfl, rfl⟩) | (go_at_call 116; refine (spec_l02Has g _ _).mono ?_; rintro e w1 ⟨rfl, hb1⟩; obtain ⟨hc1, hf1, hz1⟩ := bcell hb1; (try simp only [szs] at hz1); have hb2 := (by first | exact bw_then hb2 hb1 | exact bw_then (bw_drewN _ hb2) hb1 | exact bw_then (bw_alloc _ hb2) hb1 | exact bw_then (bw_drew hb2) hb1 | exact bw_then HB hb1 | exact bw_then (bw_drewN _ HB) hb1 | exact bw_then (bw_alloc _ HB) hb1 | exact bw_then (bw_drew HB) hb1 | exact hb1); obtain ⟨hc2, hf2, hz2⟩ := bcell hb2; (try simp only [szs] at hz2); try (first | obtain ⟨hy1, hy2, hy3, hy4⟩ := lts4 hz2 | obtain ⟨hy1, hy2, hy3⟩ := lts3 hz2 | obtain ⟨hy1, hy2⟩ := lts2 hz2 | have hy1 := lts1 hz2); have hb9 := hb1))
    go_ret
    exact ⟨ret_bool (by simp [packetOk, h1]), bel⟩
  cases h2 : isNode g p.src
  · go_wp2_with (first | (go_at_call 59; refine (spec_l01In _ _ _ _).mono ?_; rintro e w' ⟨rfl, rfl⟩) | (go_at_call 116; refine (spec_l02Has g _ _).mono ?_; rintro e w1 ⟨rfl, hb1⟩; obtain ⟨hc1, hf1, hz1⟩ := bcell hb1; (try simp only [szs] at hz1); have hb2 := (by first | exact bw_then hb2 hb1 | exact bw_then (bw_drewN _ hb2) hb1 | exact bw_then (bw_alloc _ hb2) hb1 | exact bw_then (bw_drew hb2) hb1 | exact bw_then HB hb1 | exact bw_then (bw_drewN _ HB) hb1 | exact bw_then (bw_alloc _ HB) hb1 | exact bw_then (bw_drew HB) hb1 | exact hb1); obtain ⟨hc2, hf2, hz2⟩ := bcell hb2; (try simp only [szs] at hz2); try (first | obtain ⟨hy1, hy2, hy3, hy4⟩ := lts4 hz2 | obtain ⟨hy1, hy2, hy3⟩ := lts3 hz2 | obtain ⟨hy1, hy2⟩ := lts2 hz2 | have hy1 := lts1 hz2); have hb9 := hb1))
    go_ret
    exact ⟨ret_bool (by simp [packetOk, h2]), bel⟩
  cases h3 : isNode g p.dst
  · go_wp2_with (first | (go_at_call 59; refine (spec_l01In _ _ _ _).mono ?_; rintro e w' ⟨rfl, rfl⟩) | (go_at_call 116; refine (spec_l02Has g _ _).mono ?_; rintro e w1 ⟨rfl, hb1⟩; obtain ⟨hc1, hf1, hz1⟩ := bcell hb1; (try simp only [szs] at hz1); have hb2 := (by first | exact bw_then hb2 hb1 | exact bw_then (bw_drewN _ hb2) hb1 | exact bw_then (bw_alloc _ hb2) hb1 | exact bw_then (bw_drew hb2) hb1 | exact bw_then HB hb1 | exact bw_then (bw_drewN _ HB) hb1 | exact bw_then (bw_alloc _ HB) hb1 | exact bw_then (bw_drew HB) hb1 | exact hb1); obtain ⟨hc2, hf2, hz2⟩ := bcell hb2; (try simp only [szs] at hz2); try (first | obtain ⟨hy1, hy2, hy3, hy4⟩ := lts4 hz2 | obtain ⟨hy1, hy2, hy3⟩ := lts3 hz2 | obtain ⟨hy1, hy2⟩ := lts2 hz2 | have hy1 := lts1 hz2); have hb9 := hb1))
    go_ret
    exact ⟨ret_bool (by simp [packetOk, h3]), bel⟩
  by_cases h4 : p.src = p.dst
  · have e4 : (p.src != p.dst) = false := bne_eq_false_iff_eq.2 h4
    have H4 := Lib.hid h4
    clear h4
    go_wp2_with (first | (go_at_call 59; refine (spec_l01In _ _ _ _).mono ?_; rintro e w' ⟨rfl, rfl⟩) | (go_at_call 116; refine (spec_l02Has g _ _).mono ?_; rintro e w1 ⟨rfl, hb1⟩; obtain ⟨hc1, hf1, hz1⟩ := bcell hb1; (try simp only [szs] at hz1); have hb2 := (by first | exact bw_then hb2 hb1 | exact bw_then (bw_drewN _ hb2) hb1 | exact bw_then (bw_alloc _ hb2) hb1 | exact bw_then (bw_drew hb2) hb1 | exact bw_then HB hb1 | exact bw_then (bw_drewN _ HB) hb1 | exact bw_then (bw_alloc _ HB) hb1 | exact bw_then (bw_drew HB) hb1 | exact hb1); obtain ⟨hc2, hf2, hz2⟩ := bcell hb2; (try simp only [szs] at hz2); try (first | obtain ⟨hy1, hy2, hy3, hy4⟩ := lts4 hz2 | obtain ⟨hy1, hy2, hy3⟩ := lts3 hz2 | obtain ⟨hy1, hy2⟩ := lts2 hz2 | have hy1 := lts1 hz2); have hb9 := hb1))
    go_ret
    exact ⟨ret_bool (by simp [packetOk, H4.out]), bel⟩
  have e4 : (p.src != p.dst) = true := bne_iff_ne.2 h4
  have H4 := Lib.hid h4
  clear h4
  cases h5 : inside p.cls 0 1
  · go_wp2_with (first | (go_at_call 59; refine (spec_l01In _ _ _ _).mono ?_; rintro e w' ⟨rfl, rfl⟩) | (go_at_call 116; refine (spec_l02Has g _ _).mono ?_; rintro e w1 ⟨rfl, hb1⟩; obtain ⟨hc1, hf1, hz1⟩ := bcell hb1; (try simp only [szs] at hz1); have hb2 := (by first | exact bw_then hb2 hb1 | exact bw_then (bw_drewN _ hb2) hb1 | exact bw_then (bw_alloc _ hb2) hb1 | exact bw_then (bw_drew hb2) hb1 | exact bw_then HB hb1 | exact bw_then (bw_drewN _ HB) hb1 | exact bw_then (bw_alloc _ HB) hb1 | exact bw_then (bw_drew HB) hb1 | exact hb1); obtain ⟨hc2, hf2, hz2⟩ := bcell hb2; (try simp only [szs] at hz2); try (first | obtain ⟨hy1, hy2, hy3, hy4⟩ := lts4 hz2 | obtain ⟨hy1, hy2, hy3⟩ := lts3 hz2 | obtain ⟨hy1, hy2⟩ := lts2 hz2 | have hy1 := lts1 hz2); have hb9 := hb1))
    go_ret
    exact ⟨ret_bool (by simp [packetOk, h5]), bel⟩
  · go_wp2_with (first | (go_at_call 59; refine (spec_l01In _ _ _ _).mono ?_; rintro e w' ⟨rfl, rfl⟩) | (go_at_call 116; refine (spec_l02Has g _ _).mono ?_; rintro e w1 ⟨rfl, hb1⟩; obtain ⟨hc1, hf1, hz1⟩ := bcell hb1; (try simp only [szs] at hz1); have hb2 := (by first | exact bw_then hb2 hb1 | exact bw_then (bw_drewN _ hb2) hb1 | exact bw_then (bw_alloc _ hb2) hb1 | exact bw_then (bw_drew hb2) hb1 | exact bw_then HB hb1 | exact bw_then (bw_drewN _ HB) hb1 | exact bw_then (bw_alloc _ HB) hb1 | exact bw_then (bw_drew HB) hb1 | exact hb1); obtain ⟨hc2, hf2, hz2⟩ := bcell hb2; (try simp only [szs] at hz2); try (first | obtain ⟨hy1, hy2, hy3, hy4⟩ := lts4 hz2 | obtain ⟨hy1, hy2, hy3⟩ := lts3 hz2 | obtain ⟨hy1, hy2⟩ := lts2 hz2 | have hy1 := lts1 hz2); have hb9 := hb1))
    go_ret
    exact ⟨ret_bool (by simp [packetOk, h1, h2, h3, H4.out, h5]), bel⟩

theorem impl_ClassesOk (m : Mesh) (pa pb : List Int) (A B C : Option Addr) (c d k : Nat) (w : World) (hr : Kd.C (Kd.int .i64) w A m.br.length m.br) (hn : m.br.length ≤ 2097152) (ha : Kd.C (Kd.int .i64) w B pa.length pa) (hka : pa.length ≤ 2097152) (hb : Kd.C (Kd.int .i64) w C pb.length pb) (hkb : pb.length ≤ 2097152) :
    Calls Tryz.prog 90 #[.agg #[.int .i64 m.g.w, .int .i64 m.g.h, .slice A m.br.length c], .agg #[.slice B pa.length d, .slice C pb.length k]] w fun e w' => e = .returned (.bool (classesOk m pa pb)) ∧ Below w.heap.size w w' := by
  go_enter Tryz.func90, Tryz.ntmps90
  cases h1 : tableOk m pa
  · go_wp2_with (first | (go_at_call 122; refine (impl_TableOk m pa A B _ _ _ (by exact Kd.C_below hr bel) hn (by exact Kd.C_below ha bel) hka).mono ?_; rintro e w1 ⟨rfl, hb1⟩; obtain ⟨hc1, hf1, hz1⟩ := bcell hb1; (try simp only [szs] at hz1); have hb2 := (by first | exact bw_then hb2 hb1 | exact bw_then (bw_drewN _ hb2) hb1 | exact bw_then (bw_alloc _ hb2) hb1 | exact bw_then (bw_drew hb2) hb1 | exact bw_then HB hb1 | exact bw_then (bw_drewN _ HB) hb1 | exact bw_then (bw_alloc _ HB) hb1 | exact bw_then (bw_drew HB) hb1 | exact hb1); obtain ⟨hc2, hf2, hz2⟩ := bcell hb2; (try simp only [szs] at hz2); try (first | obtain ⟨hy1, hy2, hy3, hy4⟩ := lts4 hz2 | obtain ⟨hy1, hy2, hy3⟩ := lts3 hz2 | obtain ⟨hy1, hy2⟩ := lts2 hz2 | have hy1 := lts1 hz2); have hb9 := hb1))
    go_ret
    exact ⟨ret_bool (by simp [classesOk, h1]), bel⟩
  · go_wp2_with (first | (go_at_call_of 122 pa; refine (impl_TableOk m pa A B _ _ _ (by exact Kd.C_below hr bel) hn (by exact Kd.C_below ha bel) hka).mono ?_; rintro e w1 ⟨rfl, hb1⟩; obtain ⟨hc1, hf1, hz1⟩ := bcell hb1; (try simp only [szs] at hz1); have hb2 := (by first | exact bw_then hb2 hb1 | exact bw_then (bw_drewN _ hb2) hb1 | exact bw_then (bw_alloc _ hb2) hb1 | exact bw_then (bw_drew hb2) hb1 | exact bw_then HB hb1 | exact bw_then (bw_drewN _ HB) hb1 | exact bw_then (bw_alloc _ HB) hb1 | exact bw_then (bw_drew HB) hb1 | exact hb1); obtain ⟨hc2, hf2, hz2⟩ := bcell hb2; (try simp only [szs] at hz2); try (first | obtain ⟨hy1, hy2, hy3, hy4⟩ := lts4 hz2 | obtain ⟨hy1, hy2, hy3⟩ := lts3 hz2 | obtain ⟨hy1, hy2⟩ := lts2 hz2 | have hy1 := lts1 hz2); have hb9 := hb1) | (go_at_call_of 122 pb; refine (impl_TableOk m pb A C _ _ _ (by exact Kd.C_below hr bel) hn (by exact Kd.C_below hb bel) hkb).mono ?_; rintro e w1 ⟨rfl, hb1⟩; obtain ⟨hc1, hf1, hz1⟩ := bcell hb1; (try simp only [szs] at hz1); have hb2 := (by first | exact bw_then hb2 hb1 | exact bw_then (bw_drewN _ hb2) hb1 | exact bw_then (bw_alloc _ hb2) hb1 | exact bw_then (bw_drew hb2) hb1 | exact bw_then HB hb1 | exact bw_then (bw_drewN _ HB) hb1 | exact bw_then (bw_alloc _ HB) hb1 | exact bw_then (bw_drew HB) hb1 | exact hb1); obtain ⟨hc2, hf2, hz2⟩ := bcell hb2; (try simp only [szs] at hz2); try (first | obtain ⟨hy1, hy2, hy3, hy4⟩ := lts4 hz2 | obtain ⟨hy1, hy2, hy3⟩ := lts3 hz2 | obtain ⟨hy1, hy2⟩ := lts2 hz2 | have hy1 := lts1 hz2); have hb9 := hb1))
    go_ret
    exact ⟨ret_bool (by simp [classesOk, h1]), bel⟩
theorem spec_ClassesOk (m : Mesh) (pa pb : List Int) (A B C : Option Addr) (c d k : Nat) (w : World) (hr : Kd.C (Kd.int .i64) w A m.br.length m.br) (hn : m.br.length ≤ 2097152) (ha : Kd.C (Kd.int .i64) w B pa.length pa) (hka : pa.length ≤ 2097152) (hb : Kd.C (Kd.int .i64) w C pb.length pb) (hkb : pb.length ≤ 2097152) :
    Calls Tryz.prog 76 #[.agg #[.int .i64 m.g.w, .int .i64 m.g.h, .slice A m.br.length c], .agg #[.slice B pa.length d, .slice C pb.length k]] w fun e w' => e = .returned (.bool (classesOk m pa pb)) ∧ Below w.heap.size w w' := by
  go_enter Tryz.func76, Tryz.ntmps76
  cases h1 : tableOk m pa
  · go_wp2_with (first | (go_at_call 115; refine (spec_TableOk m pa A B _ _ _ (by exact Kd.C_below hr bel) hn (by exact Kd.C_below ha bel) hka).mono ?_; rintro e w1 ⟨rfl, hb1⟩; obtain ⟨hc1, hf1, hz1⟩ := bcell hb1; (try simp only [szs] at hz1); have hb2 := (by first | exact bw_then hb2 hb1 | exact bw_then (bw_drewN _ hb2) hb1 | exact bw_then (bw_alloc _ hb2) hb1 | exact bw_then (bw_drew hb2) hb1 | exact bw_then HB hb1 | exact bw_then (bw_drewN _ HB) hb1 | exact bw_then (bw_alloc _ HB) hb1 | exact bw_then (bw_drew HB) hb1 | exact hb1); obtain ⟨hc2, hf2, hz2⟩ := bcell hb2; (try simp only [szs] at hz2); try (first | obtain ⟨hy1, hy2, hy3, hy4⟩ := lts4 hz2 | obtain ⟨hy1, hy2, hy3⟩ := lts3 hz2 | obtain ⟨hy1, hy2⟩ := lts2 hz2 | have hy1 := lts1 hz2); have hb9 := hb1))
    go_ret
    exact ⟨ret_bool (by simp [classesOk, h1]), bel⟩
  · go_wp2_with (first | (go_at_call_of 115 pa; refine (spec_TableOk m pa A B _ _ _ (by exact Kd.C_below hr bel) hn (by exact Kd.C_below ha bel) hka).mono ?_; rintro e w1 ⟨rfl, hb1⟩; obtain ⟨hc1, hf1, hz1⟩ := bcell hb1; (try simp only [szs] at hz1); have hb2 := (by first | exact bw_then hb2 hb1 | exact bw_then (bw_drewN _ hb2) hb1 | exact bw_then (bw_alloc _ hb2) hb1 | exact bw_then (bw_drew hb2) hb1 | exact bw_then HB hb1 | exact bw_then (bw_drewN _ HB) hb1 | exact bw_then (bw_alloc _ HB) hb1 | exact bw_then (bw_drew HB) hb1 | exact hb1); obtain ⟨hc2, hf2, hz2⟩ := bcell hb2; (try simp only [szs] at hz2); try (first | obtain ⟨hy1, hy2, hy3, hy4⟩ := lts4 hz2 | obtain ⟨hy1, hy2, hy3⟩ := lts3 hz2 | obtain ⟨hy1, hy2⟩ := lts2 hz2 | have hy1 := lts1 hz2); have hb9 := hb1) | (go_at_call_of 115 pb; refine (spec_TableOk m pb A C _ _ _ (by exact Kd.C_below hr bel) hn (by exact Kd.C_below hb bel) hkb).mono ?_; rintro e w1 ⟨rfl, hb1⟩; obtain ⟨hc1, hf1, hz1⟩ := bcell hb1; (try simp only [szs] at hz1); have hb2 := (by first | exact bw_then hb2 hb1 | exact bw_then (bw_drewN _ hb2) hb1 | exact bw_then (bw_alloc _ hb2) hb1 | exact bw_then (bw_drew hb2) hb1 | exact bw_then HB hb1 | exact bw_then (bw_drewN _ HB) hb1 | exact bw_then (bw_alloc _ HB) hb1 | exact bw_then (bw_drew HB) hb1 | exact hb1); obtain ⟨hc2, hf2, hz2⟩ := bcell hb2; (try simp only [szs] at hz2); try (first | obtain ⟨hy1, hy2, hy3, hy4⟩ := lts4 hz2 | obtain ⟨hy1, hy2, hy3⟩ := lts3 hz2 | obtain ⟨hy1, hy2⟩ := lts2 hz2 | have hy1 := lts1 hz2); have hb9 := hb1))
    go_ret
    exact ⟨ret_bool (by simp [classesOk, h1]), bel⟩

end Go.Proofs.YteeebfeljjghhaaGreat
/- The laws' own words on ints, grids, meshes, tables and classes: measure, copy, compare; for all lists of at most a million entries. -/
set_option linter.unusedVariables false
set_option linter.unusedSimpArgs false
namespace Go.Proofs.YteeebfeljjghhaaGreat
open Go.RowKit Go.Proofs.YteeebfeljjghhaaGreatW.PrintWords
open NoC

theorem laws_szIntS (l : List Int) (left : Int) (A : Option Addr) (c : Nat) (w : World) (hl : l.length ≤ 140737488355328) (h0 : -1 ≤ left) (h1 : left ≤ 2097152) :
    Calls Tryz.prog 36 #[.slice A l.length c, .int .i64 left] w fun e w' => e = .returned (.int .i64 (szN l.length left)) ∧ w = w' := by
  go_enter Tryz.func36, Tryz.ntmps36
  by_cases h : left - l.length < 0
  · go_wp2
    go_ret
    exact ⟨ret_int (by simp [szN]; omega), rfl⟩
  · go_wp2
    go_ret
    exact ⟨ret_int (by simp [szN]; omega), rfl⟩

set_option maxHeartbeats 1000000 in
theorem laws_toIntS (l : List Int) (A : Option Addr) (c : Nat) (w : World) (hr : Kd.C (Kd.int .i64) w A l.length l) (hn : l.length ≤ 2097152) :
    Calls Tryz.prog 43 #[.slice A l.length c] w fun e w' => GotI w w' l e ∧ Below w.heap.size w w' := by
  go_enter Tryz.func43, Tryz.ntmps43
  go_wp2_with (first | (refine make_int (W0 := w) rfl (N := 7) rfl 24 3 (.tmp 6) (.tmp 6) rfl l.length rfl rfl Tryz.underlying24 info_int (by omega) bel ?_; intro v1 w1 HO1 HB1; obtain ⟨hc1, hf1, hz1⟩ := bcell HB1; (try simp only [szs] at hz1); have hb2 := HB1; have hb9 := HB1))
  go_loopw [4] (fun i wr => ∃ (k : Nat) (x : List Int), i = .int .i64 k ∧ k ≤ l.length ∧ Hid (x.length = l.length) ∧ Hid (∀ j : Nat, j < k → ri x j = ri l j) ∧ Kd.R (Kd.int .i64) 3 wr w.heap.size (fun _ => True) v1 x ∧ Below w.heap.size w wr) (fun i _ => l.length - (intOf i).toNat)
  case atStart => exact ⟨0, List.replicate l.length 0, rfl, Nat.zero_le _, Lib.hid (by simp), Lib.hid fun j h => absurd h (Nat.not_lt_zero _), HO1, HB1⟩
  case round =>
    obtain ⟨k, x, rfl, hk, HL, HA, HO, HB⟩ := hrel
    obtain ⟨hc0, hf0, hz0⟩ := bcell HB
    by_cases hlt : k < l.length
    · obtain ⟨b, off, rfl, hb, hx⟩ := rdI_at hr k hlt
      have hxk := hx k hlt
      clear hx
      obtain ⟨g, cap, hv, hgb, hgl, cells, HG⟩ := Kd.R_form HO (by have := HL.out; omega)
      rw [HL.out] at hv
      rw [hv] at HO
      subst hv
      clear HG
      obtain ⟨hx9, hf9⟩ := rowI_cell HO k hlt
      have HP := rowI_set HO k (ri l k)
      have HS := Lib.hid HP
      clear HP
      go_wp2
      go_roundw
      case rel => exact ⟨k + 1, x.set k (ri l k), by go_num, by omega, Lib.hid (by rw [List.length_set]; exact HL.out), Lib.hid (upto (fun j hj => by rw [set_get (by have := HL.out; omega) j (by have := HL.out; omega), if_neg (by omega)]; exact HA.out j hj) (by rw [set_get (by have := HL.out; omega) k (by have := HL.out; omega), if_pos rfl])), HS.out, bw_set _ HB hgb⟩
      case measure => simp [intOf]; omega
    · go_wp2
      go_ret
      exact ⟨by have := same_get HL.out (fun j hj => HA.out j (by omega)); subst this; exact ⟨_, rfl, HO⟩, bel⟩

theorem laws_eqIntS (a b : List Int) (A B : Option Addr) (c d : Nat) (w : World) (hr : Kd.C (Kd.int .i64) w A a.length a) (hs : Kd.C (Kd.int .i64) w B b.length b) (hn : a.length ≤ 2097152) (hm : b.length ≤ 2097152) :
    Calls Tryz.prog 50 #[.slice A a.length c, .slice B b.length d] w fun e w' => e = .returned (.bool (eqL a b)) ∧ Below w.heap.size w w' := by
  go_enter Tryz.func50, Tryz.ntmps50
  by_cases hl : a.length = b.length
  · have e1 : ((a.length : Int) != (b.length : Int)) = false := by simp [hl]
    have HL := Lib.hid hl
    have hlb : a.length ≤ b.length := by omega
    clear hl
    go_wp2
    go_loopw [5] (fun i wr => ∃ k : Nat, k ≤ a.length ∧ i = .int .i64 k ∧ Hid (∀ j : Nat, j < k → ri a j = ri b j) ∧ Below w.heap.size w wr) (fun i _ => a.length - (intOf i).toNat)
    case atStart => exact ⟨0, Nat.zero_le _, rfl, Lib.hid fun j h => absurd h (Nat.not_lt_zero _), bel⟩
    case round =>
      obtain ⟨k, hk, rfl, HA, HB⟩ := hrel
      obtain ⟨hc0, hf0, hz0⟩ := bcell HB
      by_cases hlt : k < a.length
      · obtain ⟨b1, o1, rfl, hb1, hx⟩ := rdI_at hr k hlt
        have hxk := hx k hlt
        obtain ⟨b2, o2, rfl, hb2, hy⟩ := rdI_at hs k (by omega)
        have hyk := hy k (by omega)
        clear hx hy
        have i0 : (0 : Int) ≤ (k : Int) := by omega
        have i1 : (k : Int) < (a.length : Int) := by omega
        have i2 : (k : Int) < (b.length : Int) := by omega
        by_cases e : ri a k = ri b k
        · have e2 : (ri a k != ri b k) = false := bne_eq_false_iff_eq.2 e
          have E := Lib.hid e
          clear e
          go_wp2
          try (go_quiet (fail); go_wp2)
          go_roundw
          case rel => exact ⟨k + 1, by omega, by go_num, Lib.hid (upto HA.out E.out), bel⟩
          case measure => simp [intOf]; omega
        · have e2 : (ri a k != ri b k) = true := bne_iff_ne.2 e
          have E := Lib.hid e
          clear e
          go_wp2
          try (go_quiet (fail); go_wp2)
          go_ret
          exact ⟨ret_bool (eqL_no (fun h => E.out (by rw [h]))).symm, bel⟩
      · go_wp2
        go_ret
        exact ⟨ret_bool (eqL_yes HL.out (fun j hj => HA.out j (by omega))).symm, bel⟩
  · have e1 : ((a.length : Int) != (b.length : Int)) = true := bne_iff_ne.2 (by omega)
    have HL := Lib.hid hl
    clear hl
    go_wp2
    go_ret
    exact ⟨ret_bool (eqL_no (fun h => HL.out (by rw [h]))).symm, bel⟩

theorem laws_szMesh (m : Mesh) (left : Int) (A : Option Addr) (c : Nat) (w : World) (hl : m.br.length ≤ 140737488355328) (h0 : -1 ≤ left) (h1 : left ≤ 2097152) :
    Calls Tryz.prog 33 #[.agg #[.int .i64 m.g.w, .int .i64 m.g.h, .slice A m.br.length c], .int .i64 left] w fun e w' => e = .returned (.int .i64 (szN m.br.length left)) ∧ Below w.heap.size w w' := by
  obtain ⟨r0, r1⟩ := szN_range (n := m.br.length) h0 h1
  go_enter Tryz.func33, Tryz.ntmps33
  by_cases h : szN m.br.length left < 0
  · have h2 : szN m.br.length left = -1 := by omega
    have H2 := Lib.hid h2
    clear h2
    go_wp2_with (go_at_call 36; refine (laws_szIntS _ _ _ _ _ hl h0 h1).mono ?_; rintro e w' ⟨rfl, rfl⟩)
    go_ret
    exact ⟨ret_int H2.out.symm, bel⟩
  · go_wp2_with (go_at_call 36; refine (laws_szIntS _ _ _ _ _ hl h0 h1).mono ?_; rintro e w' ⟨rfl, rfl⟩)
    go_ret
    exact ⟨rfl, bel⟩
theorem laws_szTable (t : List Int) (left : Int) (A : Option Addr) (c : Nat) (w : World) (hl : t.length ≤ 140737488355328) (h0 : -1 ≤ left) (h1 : left ≤ 2097152) :
    Calls Tryz.prog 73 #[.agg #[.slice A t.length c], .int .i64 left] w fun e w' => e = .returned (.int .i64 (szN t.length left)) ∧ Below w.heap.size w w' := by
  obtain ⟨r0, r1⟩ := szN_range (n := t.length) h0 h1
  go_enter Tryz.func73, Tryz.ntmps73
  by_cases h : szN t.length left < 0
  · have h2 : szN t.length left = -1 := by omega
    have H2 := Lib.hid h2
    clear h2
    go_wp2_with (go_at_call 36; refine (laws_szIntS _ _ _ _ _ hl h0 h1).mono ?_; rintro e w' ⟨rfl, rfl⟩)
    go_ret
    exact ⟨ret_int H2.out.symm, bel⟩
  · go_wp2_with (go_at_call 36; refine (laws_szIntS _ _ _ _ _ hl h0 h1).mono ?_; rintro e w' ⟨rfl, rfl⟩)
    go_ret
    exact ⟨rfl, bel⟩
theorem laws_szClasses (pa pb : List Int) (left : Int) (A B : Option Addr) (c d : Nat) (w : World) (hl : pa.length ≤ 140737488355328) (hm : pb.length ≤ 140737488355328) (h0 : -1 ≤ left) (h1 : left ≤ 2097152) :
    Calls Tryz.prog 34 #[.agg #[.slice A pa.length c, .slice B pb.length d], .int .i64 left] w fun e w' => e = .returned (.int .i64 (szClsI pa pb left)) ∧ Below w.heap.size w w' := by
  obtain ⟨r0, r1⟩ := szN_range (n := pa.length) h0 h1
  obtain ⟨s0, s1⟩ := szN_range (n := pb.length) r0 r1
  go_enter Tryz.func34, Tryz.ntmps34
  by_cases h : szN pa.length left < 0
  · go_wp2_with (go_at_call 73; refine (laws_szTable pa left A _ _ hl h0 h1).mono ?_; rintro e w1 ⟨rfl, hb1⟩; obtain ⟨hc1, hf1, hz1⟩ := bcell hb1; (try simp only [szs] at hz1); have hb2 := (by first | exact bw_then hb2 hb1 | exact bw_then (bw_drewN _ hb2) hb1 | exact bw_then (bw_alloc _ hb2) hb1 | exact bw_then (bw_drew hb2) hb1 | exact bw_then HB hb1 | exact bw_then (bw_drewN _ HB) hb1 | exact bw_then (bw_alloc _ HB) hb1 | exact bw_then (bw_drew HB) hb1 | exact hb1); obtain ⟨hc2, hf2, hz2⟩ := bcell hb2; (try simp only [szs] at hz2); try (first | obtain ⟨hy1, hy2, hy3, hy4⟩ := lts4 hz2 | obtain ⟨hy1, hy2, hy3⟩ := lts3 hz2 | obtain ⟨hy1, hy2⟩ := lts2 hz2 | have hy1 := lts1 hz2); have hb9 := hb1)
    go_ret
    exact ⟨ret_int (by simp [szClsI, h]), bel⟩
  · by_cases h3 : szN pb.length (szN pa.length left) < 0
    · have h2 : szN pb.length (szN pa.length left) = -1 := by omega
      have H2 := Lib.hid h2
      clear h2
      go_wp2_with (first | (go_at_call_of 73 pb; refine (laws_szTable pb _ B _ _ hm r0 r1).mono ?_; rintro e w1 ⟨rfl, hb1⟩; obtain ⟨hc1, hf1, hz1⟩ := bcell hb1; (try simp only [szs] at hz1); have hb2 := (by first | exact bw_then hb2 hb1 | exact bw_then (bw_drewN _ hb2) hb1 | exact bw_then (bw_alloc _ hb2) hb1 | exact bw_then (bw_drew hb2) hb1 | exact bw_then HB hb1 | exact bw_then (bw_drewN _ HB) hb1 | exact bw_then (bw_alloc _ HB) hb1 | exact bw_then (bw_drew HB) hb1 | exact hb1); obtain ⟨hc2, hf2, hz2⟩ := bcell hb2; (try simp only [szs] at hz2); try (first | obtain ⟨hy1, hy2, hy3, hy4⟩ := lts4 hz2 | obtain ⟨hy1, hy2, hy3⟩ := lts3 hz2 | obtain ⟨hy1, hy2⟩ := lts2 hz2 | have hy1 := lts1 hz2); have hb9 := hb1) | (go_at_call_of 73 pa; refine (laws_szTable pa left A _ _ hl h0 h1).mono ?_; rintro e w1 ⟨rfl, hb1⟩; obtain ⟨hc1, hf1, hz1⟩ := bcell hb1; (try simp only [szs] at hz1); have hb2 := (by first | exact bw_then hb2 hb1 | exact bw_then (bw_drewN _ hb2) hb1 | exact bw_then (bw_alloc _ hb2) hb1 | exact bw_then (bw_drew hb2) hb1 | exact bw_then HB hb1 | exact bw_then (bw_drewN _ HB) hb1 | exact bw_then (bw_alloc _ HB) hb1 | exact bw_then (bw_drew HB) hb1 | exact hb1); obtain ⟨hc2, hf2, hz2⟩ := bcell hb2; (try simp only [szs] at hz2); try (first | obtain ⟨hy1, hy2, hy3, hy4⟩ := lts4 hz2 | obtain ⟨hy1, hy2, hy3⟩ := lts3 hz2 | obtain ⟨hy1, hy2⟩ := lts2 hz2 | have hy1 := lts1 hz2); have hb9 := hb1))
      go_ret
      exact ⟨ret_int (by rw [szClsI, if_neg (by omega), H2.out]), bel⟩
    · go_wp2_with (first | (go_at_call_of 73 pb; refine (laws_szTable pb _ B _ _ hm r0 r1).mono ?_; rintro e w1 ⟨rfl, hb1⟩; obtain ⟨hc1, hf1, hz1⟩ := bcell hb1; (try simp only [szs] at hz1); have hb2 := (by first | exact bw_then hb2 hb1 | exact bw_then (bw_drewN _ hb2) hb1 | exact bw_then (bw_alloc _ hb2) hb1 | exact bw_then (bw_drew hb2) hb1 | exact bw_then HB hb1 | exact bw_then (bw_drewN _ HB) hb1 | exact bw_then (bw_alloc _ HB) hb1 | exact bw_then (bw_drew HB) hb1 | exact hb1); obtain ⟨hc2, hf2, hz2⟩ := bcell hb2; (try simp only [szs] at hz2); try (first | obtain ⟨hy1, hy2, hy3, hy4⟩ := lts4 hz2 | obtain ⟨hy1, hy2, hy3⟩ := lts3 hz2 | obtain ⟨hy1, hy2⟩ := lts2 hz2 | have hy1 := lts1 hz2); have hb9 := hb1) | (go_at_call_of 73 pa; refine (laws_szTable pa left A _ _ hl h0 h1).mono ?_; rintro e w1 ⟨rfl, hb1⟩; obtain ⟨hc1, hf1, hz1⟩ := bcell hb1; (try simp only [szs] at hz1); have hb2 := (by first | exact bw_then hb2 hb1 | exact bw_then (bw_drewN _ hb2) hb1 | exact bw_then (bw_alloc _ hb2) hb1 | exact bw_then (bw_drew hb2) hb1 | exact bw_then HB hb1 | exact bw_then (bw_drewN _ HB) hb1 | exact bw_then (bw_alloc _ HB) hb1 | exact bw_then (bw_drew HB) hb1 | exact hb1); obtain ⟨hc2, hf2, hz2⟩ := bcell hb2; (try simp only [szs] at hz2); try (first | obtain ⟨hy1, hy2, hy3, hy4⟩ := lts4 hz2 | obtain ⟨hy1, hy2, hy3⟩ := lts3 hz2 | obtain ⟨hy1, hy2⟩ := lts2 hz2 | have hy1 := lts1 hz2); have hb9 := hb1))
      go_ret
      exact ⟨ret_int (by rw [szClsI, if_neg (by omega)]), bel⟩

theorem laws_toGrid (g : Grid) (w : World) : Calls Tryz.prog 83 #[.agg #[.int .i64 g.w, .int .i64 g.h]] w fun e w' => e = .returned (.agg #[.int .i64 g.w, .int .i64 g.h]) ∧ Below w.heap.size w w' := by
  go_enter Tryz.func83, Tryz.ntmps83
  go_wp2
  exact bodyPost_ret (v := .agg #[.int .i64 g.w, .int .i64 g.h]) (by simp [results, Tryz.results83, go_sem]) rfl ⟨rfl, bel⟩
theorem laws_toPacket (p : Packet) (w : World) : Calls Tryz.prog 70 #[.agg #[.int .i64 p.id, .int .i64 p.src, .int .i64 p.dst, .int .i64 p.cls, .int .i64 p.len]] w fun e w' => e = .returned (.agg #[.int .i64 p.id, .int .i64 p.src, .int .i64 p.dst, .int .i64 p.cls, .int .i64 p.len]) ∧ Below w.heap.size w w' := by
  go_enter Tryz.func70, Tryz.ntmps70
  go_wp2
  exact bodyPost_ret (v := .agg #[.int .i64 p.id, .int .i64 p.src, .int .i64 p.dst, .int .i64 p.cls, .int .i64 p.len]) (by simp [results, Tryz.results70, go_sem]) rfl ⟨rfl, bel⟩
theorem laws_toTable (t : List Int) (A : Option Addr) (c : Nat) (w : World) (hr : Kd.C (Kd.int .i64) w A t.length t) (hn : t.length ≤ 2097152) :
    Calls Tryz.prog 84 #[.agg #[.slice A t.length c]] w fun e w' => GotTab w w' t e ∧ Below w.heap.size w w' := by
  go_enter Tryz.func84, Tryz.ntmps84
  go_wp2_with (go_at_call 43; refine (laws_toIntS t A c _ (by exact Kd.C_below hr bel) hn).mono ?_; rintro e w1 ⟨hg1, hb1⟩; obtain ⟨v1, rfl, HO1⟩ := hg1; obtain ⟨A1, c1, rfl⟩ := Kd.R_slice HO1; obtain ⟨hc1, hf1, hz1⟩ := bcell hb1; (try simp only [szs] at hz1); have hb2 := (by first | exact bw_then hb2 hb1 | exact bw_then (bw_drewN _ hb2) hb1 | exact bw_then (bw_alloc _ hb2) hb1 | exact bw_then (bw_drew hb2) hb1 | exact bw_then HB hb1 | exact bw_then (bw_drewN _ HB) hb1 | exact bw_then (bw_alloc _ HB) hb1 | exact bw_then (bw_drew HB) hb1 | exact hb1); obtain ⟨hc2, hf2, hz2⟩ := bcell hb2; (try simp only [szs] at hz2); try (first | obtain ⟨hy1, hy2, hy3, hy4⟩ := lts4 hz2 | obtain ⟨hy1, hy2, hy3⟩ := lts3 hz2 | obtain ⟨hy1, hy2⟩ := lts2 hz2 | have hy1 := lts1 hz2); have hb9 := hb1)
  exact bodyPost_ret (v := .agg #[.slice A1 t.length c1]) (by simp [results, Tryz.results84, go_sem, *]) rfl ⟨⟨_, rfl, (by apply Kd.R_lower; (with_reducible repeat (first | exact HO1 | apply R_off | (apply R_belowC; assumption))); all_goals (first | omega | (simp only [szs]; omega)))⟩, bel⟩

theorem laws_toMesh (m : Mesh) (A : Option Addr) (c : Nat) (w : World) (hr : Kd.C (Kd.int .i64) w A m.br.length m.br) (hn : m.br.length ≤ 2097152) :
    Calls Tryz.prog 40 #[.agg #[.int .i64 m.g.w, .int .i64 m.g.h, .slice A m.br.length c]] w fun e w' => GotMesh w w' m e ∧ Below w.heap.size w w' := by
  go_enter Tryz.func40, Tryz.ntmps40
  go_wp2_with (first | (go_at_call 83; refine (laws_toGrid m.g _).mono ?_; rintro e w1 ⟨rfl, hb1⟩; obtain ⟨hc1, hf1, hz1⟩ := bcell hb1; (try simp only [szs] at hz1); have hb2 := (by first | exact bw_then hb2 hb1 | exact bw_then (bw_drewN _ hb2) hb1 | exact bw_then (bw_alloc _ hb2) hb1 | exact bw_then (bw_drew hb2) hb1 | exact bw_then HB hb1 | exact bw_then (bw_drewN _ HB) hb1 | exact bw_then (bw_alloc _ HB) hb1 | exact bw_then (bw_drew HB) hb1 | exact hb1); obtain ⟨hc2, hf2, hz2⟩ := bcell hb2; (try simp only [szs] at hz2); try (first | obtain ⟨hy1, hy2, hy3, hy4⟩ := lts4 hz2 | obtain ⟨hy1, hy2, hy3⟩ := lts3 hz2 | obtain ⟨hy1, hy2⟩ := lts2 hz2 | have hy1 := lts1 hz2); have hb9 := hb1) | (go_at_call 43; refine (laws_toIntS m.br A c _ (by exact Kd.C_below hr bel) hn).mono ?_; rintro e w1 ⟨hg1, hb1⟩; obtain ⟨v1, rfl, HO1⟩ := hg1; obtain ⟨A1, c1, rfl⟩ := Kd.R_slice HO1; obtain ⟨hc1, hf1, hz1⟩ := bcell hb1; (try simp only [szs] at hz1); have hb2 := (by first | exact bw_then hb2 hb1 | exact bw_then (bw_drewN _ hb2) hb1 | exact bw_then (bw_alloc _ hb2) hb1 | exact bw_then (bw_drew hb2) hb1 | exact bw_then HB hb1 | exact bw_then (bw_drewN _ HB) hb1 | exact bw_then (bw_alloc _ HB) hb1 | exact bw_then (bw_drew HB) hb1 | exact hb1); obtain ⟨hc2, hf2, hz2⟩ := bcell hb2; (try simp only [szs] at hz2); try (first | obtain ⟨hy1, hy2, hy3, hy4⟩ := lts4 hz2 | obtain ⟨hy1, hy2, hy3⟩ := lts3 hz2 | obtain ⟨hy1, hy2⟩ := lts2 hz2 | have hy1 := lts1 hz2); have hb9 := hb1))
  exact bodyPost_ret (v := .agg #[.int .i64 m.g.w, .int .i64 m.g.h, .slice A1 m.br.length c1]) (by simp [results, Tryz.results40, go_sem, *]) rfl ⟨⟨_, rfl, (by apply Kd.R_lower; (with_reducible repeat (first | exact HO1 | apply R_off | (apply R_belowC; assumption))); all_goals (first | omega | (simp only [szs]; omega)))⟩, bel⟩

set_option maxHeartbeats 400000 in
theorem laws_toClasses (pa pb : List Int) (A B : Option Addr) (c d : Nat) (w : World) (hr : Kd.C (Kd.int .i64) w A pa.length pa) (hn : pa.length ≤ 2097152) (hs : Kd.C (Kd.int .i64) w B pb.length pb) (hm : pb.length ≤ 2097152) :
    Calls Tryz.prog 41 #[.agg #[.slice A pa.length c, .slice B pb.length d]] w fun e w' => GotCls w w' pa pb e ∧ Below w.heap.size w w' := by
  go_enter Tryz.func41, Tryz.ntmps41
  go_wp2_with fail
  refine (laws_toTable pa A c _ (by exact Kd.C_below hr bel) hn).mono ?_
  rintro e w1 ⟨hg1, hb1⟩
  obtain ⟨va, rfl, HOA⟩ := hg1
  obtain ⟨Aa, ca, rfl⟩ := Kd.R_slice HOA
  obtain ⟨hc1, hf1, hz1⟩ := bcell hb1; (try simp only [szs] at hz1); have hb2 := (by first | exact bw_then hb2 hb1 | exact bw_then (bw_drewN _ hb2) hb1 | exact bw_then (bw_alloc _ hb2) hb1 | exact bw_then (bw_drew hb2) hb1 | exact bw_then HB hb1 | exact bw_then (bw_drewN _ HB) hb1 | exact bw_then (bw_alloc _ HB) hb1 | exact bw_then (bw_drew HB) hb1 | exact hb1); obtain ⟨hc2, hf2, hz2⟩ := bcell hb2; (try simp only [szs] at hz2); try (first | obtain ⟨hy1, hy2, hy3, hy4⟩ := lts4 hz2 | obtain ⟨hy1, hy2, hy3⟩ := lts3 hz2 | obtain ⟨hy1, hy2⟩ := lts2 hz2 | have hy1 := lts1 hz2); have hb9 := hb1
  have hba := hb1
  go_wp2_with fail
  refine (laws_toTable pb B d _ (by exact Kd.C_below hs bel) hm).mono ?_
  rintro e w2 ⟨hg1, hb1⟩
  obtain ⟨vb, rfl, HOB⟩ := hg1
  obtain ⟨Ab, cb, rfl⟩ := Kd.R_slice HOB
  obtain ⟨hc1, hf1, hz1⟩ := bcell hb1; (try simp only [szs] at hz1); have hb2 := (by first | exact bw_then hb2 hb1 | exact bw_then (bw_drewN _ hb2) hb1 | exact bw_then (bw_alloc _ hb2) hb1 | exact bw_then (bw_drew hb2) hb1 | exact bw_then HB hb1 | exact bw_then (bw_drewN _ HB) hb1 | exact bw_then (bw_alloc _ HB) hb1 | exact bw_then (bw_drew HB) hb1 | exact hb1); obtain ⟨hc2, hf2, hz2⟩ := bcell hb2; (try simp only [szs] at hz2); try (first | obtain ⟨hy1, hy2, hy3, hy4⟩ := lts4 hz2 | obtain ⟨hy1, hy2, hy3⟩ := lts3 hz2 | obtain ⟨hy1, hy2⟩ := lts2 hz2 | have hy1 := lts1 hz2); have hb9 := hb1
  go_wp2
  exact bodyPost_ret (v := .agg #[.slice Aa pa.length ca, .slice Ab pb.length cb]) (by simp [results, Tryz.results41, go_sem, *]) rfl ⟨⟨_, _, rfl, (by apply Kd.R_lower; (with_reducible repeat (first | exact HOA | apply R_off | (apply R_belowC; assumption))); all_goals (first | omega | (simp only [szs]; omega))), (by apply Kd.R_lower; (with_reducible repeat (first | exact HOB | apply R_off | (apply R_belowC; assumption))); all_goals (first | omega | (simp only [szs]; omega))), R_apart HOA HOB (by simp only [szs]; omega)⟩, bel⟩
theorem laws_eqGrid (g h : Grid) (w : World) : Calls Tryz.prog 99 #[.agg #[.int .i64 g.w, .int .i64 g.h], .agg #[.int .i64 h.w, .int .i64 h.h]] w fun e w' => e = .returned (.bool (decide (g = h))) ∧ Below w.heap.size w w' := by
  go_enter Tryz.func99, Tryz.ntmps99
  by_cases h1 : g.w = h.w
  · have e1 : (g.w != h.w) = false := bne_eq_false_iff_eq.2 h1
    have H1 := Lib.hid h1
    clear h1
    by_cases h2 : g.h = h.h
    · have e2 : (g.h != h.h) = false := bne_eq_false_iff_eq.2 h2
      have H2 := Lib.hid h2
      clear h2
      go_wp2
      try (go_quiet (fail); go_wp2)
      try (go_quiet (fail); go_wp2)
      go_ret
      exact ⟨ret_bool (by cases g; cases h; simp [H1.out, H2.out] at *; exact ⟨H1.out, H2.out⟩), bel⟩
    · have e2 : (g.h != h.h) = true := bne_iff_ne.2 h2
      have H2 := Lib.hid h2
      clear h2
      go_wp2
      try (go_quiet (fail); go_wp2)
      try (go_quiet (fail); go_wp2)
      go_ret
      exact ⟨ret_bool (decide_eq_false (fun h => H2.out (by rw [h]))).symm, bel⟩
  · have e1 : (g.w != h.w) = true := bne_iff_ne.2 h1
    have H1 := Lib.hid h1
    clear h1
    go_wp2
    try (go_quiet (fail); go_wp2)
    go_ret
    exact ⟨ret_bool (decide_eq_false (fun h => H1.out (by rw [h]))).symm, bel⟩

theorem laws_eqMesh (m k : Mesh) (A B : Option Addr) (c d : Nat) (w : World) (hr : Kd.C (Kd.int .i64) w A m.br.length m.br) (hn : m.br.length ≤ 2097152) (hs : Kd.C (Kd.int .i64) w B k.br.length k.br) (hm : k.br.length ≤ 2097152) :
    Calls Tryz.prog 47 #[.agg #[.int .i64 m.g.w, .int .i64 m.g.h, .slice A m.br.length c], .agg #[.int .i64 k.g.w, .int .i64 k.g.h, .slice B k.br.length d]] w fun e w' => e = .returned (.bool (decide (m.g = k.g) && eqL m.br k.br)) ∧ Below w.heap.size w w' := by
  go_enter Tryz.func47, Tryz.ntmps47
  cases h1 : decide (m.g = k.g)
  · have H1 := Lib.hid h1
    clear h1
    go_wp2_with (first | (go_at_call 99; refine (laws_eqGrid m.g k.g _).mono ?_; rintro e w1 ⟨he, hb1⟩; rw [H1.out] at he; subst he; obtain ⟨hc1, hf1, hz1⟩ := bcell hb1; (try simp only [szs] at hz1); have hb2 := (by first | exact bw_then hb2 hb1 | exact bw_then (bw_drewN _ hb2) hb1 | exact bw_then (bw_alloc _ hb2) hb1 | exact bw_then (bw_drew hb2) hb1 | exact bw_then HB hb1 | exact bw_then (bw_drewN _ HB) hb1 | exact bw_then (bw_alloc _ HB) hb1 | exact bw_then (bw_drew HB) hb1 | exact hb1); obtain ⟨hc2, hf2, hz2⟩ := bcell hb2; (try simp only [szs] at hz2); try (first | obtain ⟨hy1, hy2, hy3, hy4⟩ := lts4 hz2 | obtain ⟨hy1, hy2, hy3⟩ := lts3 hz2 | obtain ⟨hy1, hy2⟩ := lts2 hz2 | have hy1 := lts1 hz2); have hb9 := hb1))
    go_ret
    exact ⟨rfl, bel⟩
  · have H1 := Lib.hid h1
    clear h1
    cases h2 : eqL m.br k.br
    · go_wp2_with (first | (go_at_call 99; refine (laws_eqGrid m.g k.g _).mono ?_; rintro e w1 ⟨he, hb1⟩; rw [H1.out] at he; subst he; obtain ⟨hc1, hf1, hz1⟩ := bcell hb1; (try simp only [szs] at hz1); have hb2 := (by first | exact bw_then hb2 hb1 | exact bw_then (bw_drewN _ hb2) hb1 | exact bw_then (bw_alloc _ hb2) hb1 | exact bw_then (bw_drew hb2) hb1 | exact bw_then HB hb1 | exact bw_then (bw_drewN _ HB) hb1 | exact bw_then (bw_alloc _ HB) hb1 | exact bw_then (bw_drew HB) hb1 | exact hb1); obtain ⟨hc2, hf2, hz2⟩ := bcell hb2; (try simp only [szs] at hz2); try (first | obtain ⟨hy1, hy2, hy3, hy4⟩ := lts4 hz2 | obtain ⟨hy1, hy2, hy3⟩ := lts3 hz2 | obtain ⟨hy1, hy2⟩ := lts2 hz2 | have hy1 := lts1 hz2); have hb9 := hb1) | (go_at_call 50; refine (laws_eqIntS m.br k.br A B _ _ _ (by exact Kd.C_below hr bel) (by exact Kd.C_below hs bel) hn hm).mono ?_; rintro e w1 ⟨he, hb1⟩; rw [h2] at he; subst he; obtain ⟨hc1, hf1, hz1⟩ := bcell hb1; (try simp only [szs] at hz1); have hb2 := (by first | exact bw_then hb2 hb1 | exact bw_then (bw_drewN _ hb2) hb1 | exact bw_then (bw_alloc _ hb2) hb1 | exact bw_then (bw_drew hb2) hb1 | exact bw_then HB hb1 | exact bw_then (bw_drewN _ HB) hb1 | exact bw_then (bw_alloc _ HB) hb1 | exact bw_then (bw_drew HB) hb1 | exact hb1); obtain ⟨hc2, hf2, hz2⟩ := bcell hb2; (try simp only [szs] at hz2); try (first | obtain ⟨hy1, hy2, hy3, hy4⟩ := lts4 hz2 | obtain ⟨hy1, hy2, hy3⟩ := lts3 hz2 | obtain ⟨hy1, hy2⟩ := lts2 hz2 | have hy1 := lts1 hz2); have hb9 := hb1))
      go_ret
      exact ⟨rfl, bel⟩
    · go_wp2_with (first | (go_at_call 99; refine (laws_eqGrid m.g k.g _).mono ?_; rintro e w1 ⟨he, hb1⟩; rw [H1.out] at he; subst he; obtain ⟨hc1, hf1, hz1⟩ := bcell hb1; (try simp only [szs] at hz1); have hb2 := (by first | exact bw_then hb2 hb1 | exact bw_then (bw_drewN _ hb2) hb1 | exact bw_then (bw_alloc _ hb2) hb1 | exact bw_then (bw_drew hb2) hb1 | exact bw_then HB hb1 | exact bw_then (bw_drewN _ HB) hb1 | exact bw_then (bw_alloc _ HB) hb1 | exact bw_then (bw_drew HB) hb1 | exact hb1); obtain ⟨hc2, hf2, hz2⟩ := bcell hb2; (try simp only [szs] at hz2); try (first | obtain ⟨hy1, hy2, hy3, hy4⟩ := lts4 hz2 | obtain ⟨hy1, hy2, hy3⟩ := lts3 hz2 | obtain ⟨hy1, hy2⟩ := lts2 hz2 | have hy1 := lts1 hz2); have hb9 := hb1) | (go_at_call 50; refine (laws_eqIntS m.br k.br A B _ _ _ (by exact Kd.C_below hr bel) (by exact Kd.C_below hs bel) hn hm).mono ?_; rintro e w1 ⟨he, hb1⟩; rw [h2] at he; subst he; obtain ⟨hc1, hf1, hz1⟩ := bcell hb1; (try simp only [szs] at hz1); have hb2 := (by first | exact bw_then hb2 hb1 | exact bw_then (bw_drewN _ hb2) hb1 | exact bw_then (bw_alloc _ hb2) hb1 | exact bw_then (bw_drew hb2) hb1 | exact bw_then HB hb1 | exact bw_then (bw_drewN _ HB) hb1 | exact bw_then (bw_alloc _ HB) hb1 | exact bw_then (bw_drew HB) hb1 | exact hb1); obtain ⟨hc2, hf2, hz2⟩ := bcell hb2; (try simp only [szs] at hz2); try (first | obtain ⟨hy1, hy2, hy3, hy4⟩ := lts4 hz2 | obtain ⟨hy1, hy2, hy3⟩ := lts3 hz2 | obtain ⟨hy1, hy2⟩ := lts2 hz2 | have hy1 := lts1 hz2); have hb9 := hb1))
      go_ret
      exact ⟨rfl, bel⟩
theorem laws_eqTable (a b : List Int) (A B : Option Addr) (c d : Nat) (w : World) (hr : Kd.C (Kd.int .i64) w A a.length a) (hn : a.length ≤ 2097152) (hs : Kd.C (Kd.int .i64) w B b.length b) (hm : b.length ≤ 2097152) :
    Calls Tryz.prog 100 #[.agg #[.slice A a.length c], .agg #[.slice B b.length d]] w fun e w' => e = .returned (.bool (eqL a b)) ∧ Below w.heap.size w w' := by
  go_enter Tryz.func100, Tryz.ntmps100
  cases h2 : eqL a b
  · go_wp2_with (first | (go_at_call 50; refine (laws_eqIntS a b A B _ _ _ (by exact Kd.C_below hr bel) (by exact Kd.C_below hs bel) hn hm).mono ?_; rintro e w1 ⟨he, hb1⟩; rw [h2] at he; subst he; obtain ⟨hc1, hf1, hz1⟩ := bcell hb1; (try simp only [szs] at hz1); have hb2 := (by first | exact bw_then hb2 hb1 | exact bw_then (bw_drewN _ hb2) hb1 | exact bw_then (bw_alloc _ hb2) hb1 | exact bw_then (bw_drew hb2) hb1 | exact bw_then HB hb1 | exact bw_then (bw_drewN _ HB) hb1 | exact bw_then (bw_alloc _ HB) hb1 | exact bw_then (bw_drew HB) hb1 | exact hb1); obtain ⟨hc2, hf2, hz2⟩ := bcell hb2; (try simp only [szs] at hz2); try (first | obtain ⟨hy1, hy2, hy3, hy4⟩ := lts4 hz2 | obtain ⟨hy1, hy2, hy3⟩ := lts3 hz2 | obtain ⟨hy1, hy2⟩ := lts2 hz2 | have hy1 := lts1 hz2); have hb9 := hb1))
    go_ret
    exact ⟨rfl, bel⟩
  · go_wp2_with (first | (go_at_call 50; refine (laws_eqIntS a b A B _ _ _ (by exact Kd.C_below hr bel) (by exact Kd.C_below hs bel) hn hm).mono ?_; rintro e w1 ⟨he, hb1⟩; rw [h2] at he; subst he; obtain ⟨hc1, hf1, hz1⟩ := bcell hb1; (try simp only [szs] at hz1); have hb2 := (by first | exact bw_then hb2 hb1 | exact bw_then (bw_drewN _ hb2) hb1 | exact bw_then (bw_alloc _ hb2) hb1 | exact bw_then (bw_drew hb2) hb1 | exact bw_then HB hb1 | exact bw_then (bw_drewN _ HB) hb1 | exact bw_then (bw_alloc _ HB) hb1 | exact bw_then (bw_drew HB) hb1 | exact hb1); obtain ⟨hc2, hf2, hz2⟩ := bcell hb2; (try simp only [szs] at hz2); try (first | obtain ⟨hy1, hy2, hy3, hy4⟩ := lts4 hz2 | obtain ⟨hy1, hy2, hy3⟩ := lts3 hz2 | obtain ⟨hy1, hy2⟩ := lts2 hz2 | have hy1 := lts1 hz2); have hb9 := hb1))
    go_ret
    exact ⟨rfl, bel⟩
theorem laws_eqClasses (pa pb : List Int) (A B A' B' : Option Addr) (c d c' d' : Nat) (w : World) (hr : Kd.C (Kd.int .i64) w A pa.length pa) (hn : pa.length ≤ 2097152) (hs : Kd.C (Kd.int .i64) w B pb.length pb) (hm : pb.length ≤ 2097152) (hr' : Kd.C (Kd.int .i64) w A' pa.length pa) (hs' : Kd.C (Kd.int .i64) w B' pb.length pb) :
    Calls Tryz.prog 48 #[.agg #[.slice A pa.length c, .slice B pb.length d], .agg #[.slice A' pa.length c', .slice B' pb.length d']] w fun e w' => e = .returned (.bool true) ∧ Below w.heap.size w w' := by
  go_enter Tryz.func48, Tryz.ntmps48
  go_wp2_with fail
  refine (laws_eqTable pa pa A A' _ _ _ (by exact Kd.C_below hr bel) hn (by exact Kd.C_below hr' bel) hn).mono ?_
  rintro e w1 ⟨he, hb1⟩
  rw [eqL_self] at he
  subst he
  obtain ⟨hc1, hf1, hz1⟩ := bcell hb1; (try simp only [szs] at hz1); have hb2 := (by first | exact bw_then hb2 hb1 | exact bw_then (bw_drewN _ hb2) hb1 | exact bw_then (bw_alloc _ hb2) hb1 | exact bw_then (bw_drew hb2) hb1 | exact bw_then HB hb1 | exact bw_then (bw_drewN _ HB) hb1 | exact bw_then (bw_alloc _ HB) hb1 | exact bw_then (bw_drew HB) hb1 | exact hb1); obtain ⟨hc2, hf2, hz2⟩ := bcell hb2; (try simp only [szs] at hz2); try (first | obtain ⟨hy1, hy2, hy3, hy4⟩ := lts4 hz2 | obtain ⟨hy1, hy2, hy3⟩ := lts3 hz2 | obtain ⟨hy1, hy2⟩ := lts2 hz2 | have hy1 := lts1 hz2); have hb9 := hb1
  go_wp2_with fail
  refine (laws_eqTable pb pb B B' _ _ _ (by exact Kd.C_below hs bel) hm (by exact Kd.C_below hs' bel) hm).mono ?_
  rintro e w2 ⟨he, hb1⟩
  rw [eqL_self] at he
  subst he
  obtain ⟨hc1, hf1, hz1⟩ := bcell hb1; (try simp only [szs] at hz1); have hb2 := (by first | exact bw_then hb2 hb1 | exact bw_then (bw_drewN _ hb2) hb1 | exact bw_then (bw_alloc _ hb2) hb1 | exact bw_then (bw_drew hb2) hb1 | exact bw_then HB hb1 | exact bw_then (bw_drewN _ HB) hb1 | exact bw_then (bw_alloc _ HB) hb1 | exact bw_then (bw_drew HB) hb1 | exact hb1); obtain ⟨hc2, hf2, hz2⟩ := bcell hb2; (try simp only [szs] at hz2); try (first | obtain ⟨hy1, hy2, hy3, hy4⟩ := lts4 hz2 | obtain ⟨hy1, hy2, hy3⟩ := lts3 hz2 | obtain ⟨hy1, hy2⟩ := lts2 hz2 | have hy1 := lts1 hz2); have hb9 := hb1
  go_wp2
  go_ret
  exact ⟨rfl, bel⟩
end Go.Proofs.YteeebfeljjghhaaGreat
/- Boxes of a law's variables: what they hold, in every later world that leaves them alone. No program. -/
set_option linter.unusedVariables false
set_option linter.unusedSimpArgs false
namespace Go.Proofs.YteeebfeljjghhaaGreat
open Go.RowKit Go.Proofs.YteeebfeljjghhaaGreatW.PrintWords

structure Box (w : World) (b : Nat) (cs : Array Value) : Prop where
  lt : b < w.heap.size
  get : ∀ o, w.cell? ⟨b, o, none⟩ = cs[o]?
theorem Box.below {w w1 : World} {b : Nat} {cs : Array Value} (h : Box w b cs) (hb : Below w.heap.size w w1) : Box w1 b cs :=
  ⟨Nat.lt_of_lt_of_le h.lt hb.size, fun o => ((bcell hb).1 b o h.lt).trans (h.get o)⟩
theorem Box.alloc {w : World} {b : Nat} {cs : Array Value} (h : Box w b cs) (o : Obj) : Box (w.alloc o) b cs := h.below (bw_alloc o (bw_refl w))
theorem Box.new (w : World) (b : Nat) (cs : Array Value) (T : TypeId) (hb : b = w.heap.size) : Box (w.alloc (.cells cs T)) b cs := by
  subst hb
  refine ⟨by rw [World.size_alloc]; omega, fun o => ?_⟩
  have h : (w.alloc (.cells cs T)).heap[w.heap.size]? = some (.cells cs T) := show (w.heap.push _)[w.heap.size]? = _ from Array.getElem?_push_size
  unfold World.cell?
  rw [h]
  rfl
theorem bw_self {w w' : World} (h : w = w') : Below w.heap.size w w' := h ▸ bw_refl w
end Go.Proofs.YteeebfeljjghhaaGreat
/- Rows of plain records (packets, waits): what is read of them and made; no program but its types' sizes. -/
set_option linter.unusedVariables false
set_option linter.unusedSimpArgs false
namespace Go.Proofs.YteeebfeljjghhaaGreat
open Go.RowKit Go.Proofs.YteeebfeljjghhaaGreatW.PrintWords

def Kd.flat {α : Type} (n : Nat) (enc : α → List Value) (hl : ∀ x, (enc x).length = n) (h1 : ∀ x, ∀ u ∈ enc x, u.oneCell' = true) : Kd α where
  sz := n
  E := []
  K := fun _ x cs => cs = enc x
  M := fun _ _ _ x cs => cs = enc x
  K_len := fun h => by rw [h]; exact hl _
  K_one := fun h u hu => by rw [h] at hu; exact h1 _ u hu
  K_below := fun _ h => h
  K_of_M := fun h => h
  M_mono := fun _ h => h
  M_bound := fun h => h
  M_move := fun _ h => h
  M_lower := fun _ h => h
section
variable {α : Type} {n : Nat} {enc : α → List Value} {hl : ∀ x, (enc x).length = n} {h1 : ∀ x, ∀ u ∈ enc x, u.oneCell' = true}
theorem rdF_at (z : α) (hn : 0 < n) {w : World} {A : Option Addr} {l : List α} (h : (Kd.flat n enc hl h1).C w A l.length l) (k : Nat) (hk : k < l.length) :
    ∃ b off, A = some ⟨b, off, none⟩ ∧ b < w.heap.size ∧ ∀ j, j < l.length → ∀ i u, (enc (l.getD j z))[i]? = some u → w.cell? ⟨b, off + (j * n + i), none⟩ = some u := by
  have key : ∀ j, j < l.length → ∃ ad, A = some ad ∧ ∀ i u, (enc (l.getD j z))[i]? = some u → w.cell? (ad.add (j * n + i)) = some u := by
    intro j hj
    obtain ⟨ad, cs, e, _, hK, hc⟩ := Kd.C_get h z (j : Int) (by omega) (by omega)
    have hK' : cs = enc (l.getD (j : Int).toNat z) := hK
    subst hK'
    refine ⟨ad, e, fun i u hu => ?_⟩
    have := hc i u hu
    rwa [Int.toNat_natCast] at this
  obtain ⟨ad, rfl, h0⟩ := key 0 (by omega)
  have hlt : 0 < (enc (l.getD 0 z)).length := by rw [hl]; exact hn
  have h00 := h0 0 _ (List.getElem?_eq_getElem hlt)
  rw [Nat.zero_mul] at h00
  have hs : ad.spot = none := by
    cases hsp : ad.spot with
    | none => rfl
    | some s =>
      have : ad.add (0 + 0) = ad := by simp [Addr.add]
      rw [this] at h00
      unfold World.cell? at h00
      split at h00
      · simp [hsp] at h00
      · simp at h00
  obtain ⟨b, off, sp⟩ := ad
  simp only at hs
  subst hs
  refine ⟨b, off, rfl, World.block_lt_of_cell? w _ h00, fun j hj i u hu => ?_⟩
  obtain ⟨ad, e, h2⟩ := key j hj
  obtain rfl := Option.some.inj e
  have h3 := h2 i u hu
  rwa [show (⟨b, off, none⟩ : Addr).add (j * n + i) = ⟨b, off + (j * n + i), none⟩ by unfold Addr.add; split <;> simp_all] at h3
theorem rowF_cell (z : α) {w : World} {base e g m c : Nat} {xs : List α} (h : Kd.R (Kd.flat n enc hl h1) e w base (fun _ => True) (.slice (some ⟨g, 0, none⟩) m c) xs) (k : Nat) (hk : k < m) :
    (∀ i u, (enc (xs.getD k z))[i]? = some u → w.cell? ⟨g, k * n + i, none⟩ = some u) ∧ ∀ i, w.frozen? ⟨g, k * n + i, none⟩ = false := by
  obtain ⟨cs, hcl, hM, hcc, hf⟩ := Kd.R_elem h z (k : Int) (by omega) (by omega)
  have hM' : cs = enc (xs.getD (k : Int).toNat z) := hM
  subst hM'
  rw [Int.toNat_natCast] at hcc hf
  exact ⟨hcc, hf⟩
end
def pkCells (p : NoC.Packet) : List Value := [.int .i64 p.id, .int .i64 p.src, .int .i64 p.dst, .int .i64 p.cls, .int .i64 p.len]
def kP : Kd NoC.Packet := Kd.flat 5 pkCells (fun _ => rfl) (fun x u hu => by
  simp only [pkCells, List.mem_cons, List.not_mem_nil, or_false] at hu
  rcases hu with rfl | rfl | rfl | rfl | rfl <;> rfl)
theorem rdP_at {w : World} {A : Option Addr} {l : List NoC.Packet} (h : kP.C w A l.length l) (k : Nat) (hk : k < l.length) :
    ∃ b off, A = some ⟨b, off, none⟩ ∧ b < w.heap.size ∧ w.cell? ⟨b, off + k * 5, none⟩ = some (.int .i64 (NoC.rp l k).id) ∧ w.cell? ⟨b, off + k * 5 + 1, none⟩ = some (.int .i64 (NoC.rp l k).src) ∧ w.cell? ⟨b, off + k * 5 + 2, none⟩ = some (.int .i64 (NoC.rp l k).dst) ∧ w.cell? ⟨b, off + k * 5 + 3, none⟩ = some (.int .i64 (NoC.rp l k).cls) ∧ w.cell? ⟨b, off + k * 5 + 4, none⟩ = some (.int .i64 (NoC.rp l k).len) := by
  obtain ⟨b, off, rfl, hb, hx⟩ := rdF_at (n := 5) NoC.zp (by omega) h k hk
  exact ⟨b, off, rfl, hb, hx k hk 0 _ rfl, hx k hk 1 _ rfl, hx k hk 2 _ rfl, hx k hk 3 _ rfl, hx k hk 4 _ rfl⟩
end Go.Proofs.YteeebfeljjghhaaGreat
/- The laws' own words on rows of packets: measure, copy, compare; for all lists of at most a million packets. -/
set_option linter.unusedVariables false
set_option linter.unusedSimpArgs false
namespace Go.Proofs.YteeebfeljjghhaaGreat
open Go.RowKit Go.Proofs.YteeebfeljjghhaaGreatW.PrintWords
open NoC

theorem info_P : (Tryz.prog.info? 89).map (fun i => (i.zero, i.size, i.bytes)) = some (some (.agg #[.int .i64 0, .int .i64 0, .int .i64 0, .int .i64 0, .int .i64 0]), 5, 40) := by kernel_rfl
def GotP (w w' : World) (xs : List Packet) (e : Ending) : Prop := ∃ v, e = .returned v ∧ kP.R 89 w' w.heap.size (fun _ => True) v xs
theorem GotP.read {w w' : World} {xs : List Packet} {e : Ending} (h : GotP w w' xs e) : ∃ A c, e = .returned (.slice A xs.length c) ∧ xs.length ≤ c ∧ kP.C w' A xs.length xs := by
  obtain ⟨v, rfl, hR⟩ := h
  obtain ⟨A, c, rfl, h1, h2⟩ := Kd.R_reads hR
  exact ⟨A, c, rfl, h1, h2⟩
section
variable {ops : Array Oper} {rest : List Oper} {o : Oper} {a : Act} {Q : Exit → Act → World → Prop}
theorem make_P {W0 W : World} (hgd : o.guard = none) {N : Tmp} (hd : o.dst = some N) (x y : Operand) (ho : o.op = .makeSlice 58 x y) (n : Nat) (hx : a.eval x = .int .i64 n) (hy : a.eval y = .int .i64 n)
    (hl : n ≤ 1000000000) (HB : Below W0.heap.size W0 W)
    (h : ∀ v1 w1, kP.R 89 w1 W0.heap.size (fun _ => True) v1 (List.replicate n zp) → Below W0.heap.size W0 w1 → wpList Tryz.prog ops Q rest (a.put o.dst v1) w1) : wpList Tryz.prog ops Q (o :: rest) a W :=
  Kd.R_make kP (w0 := W0) W0.heap.size 89 hgd hd 58 x y ho (n : Int) hx hy Tryz.underlying58 (.agg #[.int .i64 0, .int .i64 0, .int .i64 0, .int .i64 0, .int .i64 0]) 40 info_P rfl (by decide) (by omega) zp (ok := fun _ => True) (okp := fun _ => True) rfl (fun _ hk => hk) trivial (by omega) (by simp; omega) HB HB.size
    (fun v1 w1 h1 h2 _ _ => h v1 w1 (by simpa using h1) h2)
theorem put_P {W0 W : World} (hN : o.dst = none) (hgd : o.guard = none) (p x : Operand) (ho : o.op = .store 89 p x) {g m cap o' : Nat} (k : Nat) (xs : List Packet) (y : Packet)
    (haddr : a.eval p = .pointer (some ⟨g, o', none⟩)) (hoff : o' = k * 5) (hx : a.eval x = .agg #[.int .i64 y.id, .int .i64 y.src, .int .i64 y.dst, .int .i64 y.cls, .int .i64 y.len]) (HO : kP.R 89 W W0.heap.size (fun _ => True) (.slice (some ⟨g, 0, none⟩) m cap) xs) (hk : k < m) (HB : Below W0.heap.size W0 W)
    (h : ∀ w1, kP.R 89 w1 W0.heap.size (fun _ => True) (.slice (some ⟨g, 0, none⟩) m cap) (xs.set k y) → Below W0.heap.size W0 w1 → W.grownBy w1 (some g) → wpList Tryz.prog ops Q rest a w1) : wpList Tryz.prog ops Q (o :: rest) a W := by
  have hc := rowF_cell zp HO k hk
  refine Kd.R_store kP (w0 := W0) W0.heap.size hN hgd 89 p x ho 89 (k : Int) 0 xs y (.agg #[.int .i64 y.id, .int .i64 y.src, .int .i64 y.dst, .int .i64 y.cls, .int .i64 y.len]) (pkCells y) (pkCells (xs.getD k zp)) (fun _ => True) (fun _ => False) haddr (by rw [hoff]; rfl) hx rfl (by kernel_rfl) ?_ HO (by omega) (by omega) rfl ?_ (by show 0 + 5 ≤ 5; omega) ?_ (fun _ h => h.elim) HB ?_
  · intro q hq
    simp only [pkCells, List.mem_cons, List.not_mem_nil, or_false] at hq
    rcases hq with rfl | rfl | rfl | rfl | rfl <;> rfl
  · exact hc.1
  · rfl
  · intro w1 h1 h2 h3
    exact h w1 h1 h2 h3
end

theorem laws_szPacketS (l : List Packet) (left : Int) (A : Option Addr) (c : Nat) (w : World) (hl : l.length ≤ 140737488355328) (h0 : -1 ≤ left) (h1 : left ≤ 2097152) :
    Calls Tryz.prog 27 #[.slice A l.length c, .int .i64 left] w fun e w' => e = .returned (.int .i64 (szN l.length left)) ∧ w = w' := by
  go_enter Tryz.func27, Tryz.ntmps27
  by_cases h : left - l.length < 0
  · go_wp2
    go_ret
    exact ⟨ret_int (by simp [szN]; omega), rfl⟩
  · go_wp2
    go_ret
    exact ⟨ret_int (by simp [szN]; omega), rfl⟩

theorem same_getP {x l : List Packet} (h1 : x.length = l.length) (h : ∀ j : Nat, j < l.length → rp x j = rp l j) : x = l := by
  apply List.ext_getElem h1
  intro j a b
  have := h j b
  simpa [rp, List.getD_eq_getElem?_getD, a, b] using this
theorem set_getP {x : List Packet} {k : Nat} {v : Packet} (hk : k < x.length) (j : Nat) (hj : j < x.length) : rp (x.set k v) j = if k = j then v else rp x j := by
  by_cases e : k = j
  · subst e; simp [rp, List.getD_eq_getElem?_getD, hk]
  · simp [rp, List.getD_eq_getElem?_getD, e]

set_option maxHeartbeats 1000000 in
theorem laws_toPacketS (l : List Packet) (A : Option Addr) (c : Nat) (w : World) (hr : kP.C w A l.length l) (hn : l.length ≤ 2097152) :
    Calls Tryz.prog 29 #[.slice A l.length c] w fun e w' => GotP w w' l e ∧ Below w.heap.size w w' := by
  go_enter Tryz.func29, Tryz.ntmps29
  go_wp2_with (first | (refine make_P (W0 := w) rfl (N := 7) rfl (.tmp 6) (.tmp 6) rfl l.length rfl rfl (by omega) bel ?_; intro v1 w1 HO1 HB1; obtain ⟨hc1, hf1, hz1⟩ := bcell HB1; (try simp only [szs] at hz1); have hb2 := HB1; have hb9 := HB1))
  go_loopw [4] (fun i wr => ∃ (k : Nat) (x : List Packet), i = .int .i64 k ∧ k ≤ l.length ∧ Hid (x.length = l.length) ∧ Hid (∀ j : Nat, j < k → rp x j = rp l j) ∧ kP.R 89 wr w.heap.size (fun _ => True) v1 x ∧ Below w.heap.size w wr) (fun i _ => l.length - (intOf i).toNat)
  case atStart => exact ⟨0, List.replicate l.length zp, rfl, Nat.zero_le _, Lib.hid (by simp), Lib.hid fun j h => absurd h (Nat.not_lt_zero _), HO1, HB1⟩
  case round =>
    obtain ⟨k, x, rfl, hk, HL, HA, HO, HB⟩ := hrel
    obtain ⟨hc0, hf0, hz0⟩ := bcell HB
    by_cases hlt : k < l.length
    · obtain ⟨b, off, rfl, hb, p0, p1, p2, p3, p4⟩ := rdP_at hr k hlt
      obtain ⟨g, cap, hv, hgb, hgl, cells, HG⟩ := Kd.R_form HO (by have := HL.out; omega)
      rw [HL.out] at hv
      rw [hv] at HO
      subst hv
      clear HG
      go_wp2_with (first | (go_at_call 70; refine (laws_toPacket (rp l k) _).mono ?_; rintro e w1 ⟨rfl, hb1⟩; obtain ⟨hc1, hf1, hz1⟩ := bcell hb1; (try simp only [szs] at hz1); have hb2 := (by first | exact bw_then hb2 hb1 | exact bw_then (bw_drewN _ hb2) hb1 | exact bw_then (bw_alloc _ hb2) hb1 | exact bw_then (bw_drew hb2) hb1 | exact bw_then HB hb1 | exact bw_then (bw_drewN _ HB) hb1 | exact bw_then (bw_alloc _ HB) hb1 | exact bw_then (bw_drew HB) hb1 | exact hb1); obtain ⟨hc2, hf2, hz2⟩ := bcell hb2; (try simp only [szs] at hz2); try (first | obtain ⟨hy1, hy2, hy3, hy4⟩ := lts4 hz2 | obtain ⟨hy1, hy2, hy3⟩ := lts3 hz2 | obtain ⟨hy1, hy2⟩ := lts2 hz2 | have hy1 := lts1 hz2); have hb9 := hb1) | (refine put_P (W0 := w) rfl rfl (.tmp 21) (.tmp 20) rfl k x (rp l k) rfl (by simp) rfl (by exact Kd.R_below HO bel) hlt bel ?_; intro w9 HO9 HB9 HG9))
      go_roundw
      case rel => exact ⟨k + 1, x.set k (rp l k), by go_num, by omega, Lib.hid (by rw [List.length_set]; exact HL.out), Lib.hid (upto (fun j hj => by rw [set_getP (by have := HL.out; omega) j (by have := HL.out; omega), if_neg (by omega)]; exact HA.out j hj) (by rw [set_getP (by have := HL.out; omega) k (by have := HL.out; omega), if_pos rfl])), HO9, HB9⟩
      case measure => simp [intOf]; omega
    · go_wp2
      go_ret
      have e : x = l := same_getP HL.out (fun j hj => HA.out j (by omega))
      subst e
      exact ⟨⟨_, rfl, HO⟩, bel⟩
theorem bne_self (n : Int) : (n != n) = false := bne_eq_false_iff_eq.2 rfl
theorem laws_eqPacket (p : Packet) (w : World) : Calls Tryz.prog 72 #[.agg #[.int .i64 p.id, .int .i64 p.src, .int .i64 p.dst, .int .i64 p.cls, .int .i64 p.len], .agg #[.int .i64 p.id, .int .i64 p.src, .int .i64 p.dst, .int .i64 p.cls, .int .i64 p.len]] w fun e w' => e = .returned (.bool true) ∧ Below w.heap.size w w' := by
  have e1 := bne_self p.id
  have e2 := bne_self p.src
  have e3 := bne_self p.dst
  have e4 := bne_self p.cls
  have e5 := bne_self p.len
  go_enter Tryz.func72, Tryz.ntmps72
  go_wp2
  try (go_quiet (fail); go_wp2)
  try (go_quiet (fail); go_wp2)
  try (go_quiet (fail); go_wp2)
  try (go_quiet (fail); go_wp2)
  try (go_quiet (fail); go_wp2)
  go_ret
  exact ⟨rfl, bel⟩
theorem laws_eqPacketS (l : List Packet) (A B : Option Addr) (c d : Nat) (w : World) (hr : kP.C w A l.length l) (hs : kP.C w B l.length l) (hn : l.length ≤ 2097152) :
    Calls Tryz.prog 31 #[.slice A l.length c, .slice B l.length d] w fun e w' => e = .returned (.bool true) ∧ Below w.heap.size w w' := by
  have e0 := bne_self (l.length : Int)
  go_enter Tryz.func31, Tryz.ntmps31
  go_wp2
  try (go_quiet (fail); go_wp2)
  go_loopw [5] (fun i wr => ∃ k : Nat, k ≤ l.length ∧ i = .int .i64 k ∧ Below w.heap.size w wr) (fun i _ => l.length - (intOf i).toNat)
  case atStart => exact ⟨0, Nat.zero_le _, rfl, bel⟩
  case round =>
    obtain ⟨k, hk, rfl, HB⟩ := hrel
    obtain ⟨hc0, hf0, hz0⟩ := bcell HB
    by_cases hlt : k < l.length
    · obtain ⟨b1, o1, rfl, hb1, p0, p1, p2, p3, p4⟩ := rdP_at hr k hlt
      obtain ⟨b2, o2, rfl, hb2, q0, q1, q2, q3, q4⟩ := rdP_at hs k hlt
      have i0 : (0 : Int) ≤ (k : Int) := by omega
      have i1 : (k : Int) < (l.length : Int) := by omega
      go_wp2_with fail
      refine wp_region_far (w) (by kernel_rfl) (by kernel_rfl) bel ?_
      have hqc := far_cell (w)
      have hqf := far_frozen (w)
      repeat (first | go_big_quiet_step ((go_at_call 72; exact far_call (laws_eqPacket (rp l k) _))) | quiet_step ((go_at_call 72; exact far_call (laws_eqPacket (rp l k) _))))
      refine wpQuiet_nil ?_
      intro wq hbq
      clear hqc hqf
      obtain ⟨hcq, hfq, hzq⟩ := bcell hbq
      try simp only [szs] at hzq
      go_wp2
      go_roundw
      case rel => exact ⟨k + 1, by omega, by go_num, bel⟩
      case measure => simp [intOf]; omega
    · go_wp2
      go_ret
      exact ⟨rfl, bel⟩
end Go.Proofs.YteeebfeljjghhaaGreat
/- The laws' marks: what is written into a row of one's own, and read again; the rows and boxes that lie elsewhere stay. For all rows of at most a million elements. -/
set_option linter.unusedVariables false
set_option linter.unusedSimpArgs false
namespace Go.Proofs.YteeebfeljjghhaaGreat
open Go.RowKit Go.Proofs.YteeebfeljjghhaaGreatW.PrintWords
open NoC

def Within (v : Value) (lo hi : Nat) : Prop := ∀ k, v.ownBlock = some k → lo ≤ k ∧ k < hi
theorem within_R {α : Type} {d : Kd α} {e base : Nat} {w : World} {v : Value} {xs : List α} (h : d.R e w base (fun _ => True) v xs) : Within v base w.heap.size := fun k hk => ⟨Kd.R_base h k hk, Kd.R_lt h k hk⟩
def Apart (u v : Value) : Prop := u.ownBlock = none ∨ u.ownBlock ≠ v.ownBlock
theorem apart_lt {u v : Value} {a b c d : Nat} (hu : Within u a b) (hv : Within v c d) (h : b ≤ c) : Apart u v := by
  cases e : u.ownBlock with
  | none => exact .inl e
  | some k =>
    right
    intro e2
    have h1 := hu k e
    have h2 := hv k (by rw [← e2]; exact e)
    omega
theorem apart_gt {u v : Value} {a b c d : Nat} (hu : Within u a b) (hv : Within v c d) (h : d ≤ a) : Apart u v := by
  cases e : u.ownBlock with
  | none => exact .inl e
  | some k =>
    right
    intro e2
    have h1 := hu k e
    have h2 := hv k (by rw [← e2]; exact e)
    omega
theorem apart_comm {u v : Value} (h : Apart u v) : Apart v u := by
  rcases h with h | h
  · cases e : v.ownBlock with
    | none => exact .inl e
    | some k => right; rw [h, e]; simp
  · exact .inr (Ne.symm h)
theorem Box.grown {w w1 : World} {b : Nat} {cs : Array Value} {row : Option Nat} (h : Box w b cs) (hg : w.grownBy w1 row) (hne : some b ≠ row) : Box w1 b cs := by
  refine ⟨Nat.lt_of_lt_of_le h.lt hg.size, fun o => ?_⟩
  have := hg.block b h.lt hne
  rw [← h.get o]
  unfold World.cell?
  rw [this]
theorem grown_trans {w w1 w2 : World} {r : Option Nat} (h : w.grownBy w1 r) (k : w1.grownBy w2 r) : w.grownBy w2 r :=
  ⟨k.os.trans h.os, k.tape.trans h.tape, k.output.trans h.output, Nat.le_trans h.size k.size, fun j hj hne => (k.block j (Nat.lt_of_lt_of_le hj h.size) hne).trans (h.block j hj hne)⟩
theorem R_grownI {e base : Nat} {w w1 : World} {v : Value} {xs : List Int} {row : Option Nat} (h : Kd.R (Kd.int .i64) e w base (fun _ => True) v xs) (hg : w.grownBy w1 row) (ha : v.ownBlock = none ∨ v.ownBlock ≠ row) : Kd.R (Kd.int .i64) e w1 base (fun _ => True) v xs := by
  obtain ⟨h0, inner, ho, hr⟩ := h
  exact ⟨h0, inner, ho.kept hg ha, hr⟩
theorem R_grownF {α : Type} {n : Nat} {enc : α → List Value} {hl : ∀ x, (enc x).length = n} {h1 : ∀ x, ∀ u ∈ enc x, u.oneCell' = true} {e base : Nat} {w w1 : World} {v : Value} {xs : List α} {row : Option Nat} (h : Kd.R (Kd.flat n enc hl h1) e w base (fun _ => True) v xs) (hg : w.grownBy w1 row) (ha : v.ownBlock = none ∨ v.ownBlock ≠ row) : Kd.R (Kd.flat n enc hl h1) e w1 base (fun _ => True) v xs := by
  obtain ⟨h0, inner, ho, hr⟩ := h
  exact ⟨h0, inner, ho.kept hg ha, hr⟩
def markL (k : Int) (n : Nat) : List Int := (List.range n).map (fun (j : Nat) => k + (j : Int))
theorem markL_len (k : Int) (n : Nat) : (markL k n).length = n := by simp [markL]
theorem markL_get (k : Int) (n j : Nat) (h : j < n) : ri (markL k n) j = k + j := by
  rw [ri_get _ j (by rw [markL_len]; exact h)]
  simp [markL]
theorem rowI_grown {e base g n cap : Nat} {ok : Nat → Prop} {W : World} {xs : List Int} (h : Kd.R (Kd.int .i64) e W base ok (.slice (some ⟨g, 0, none⟩) n cap) xs) (k : Nat) (v : Int) : W.grownBy (W.setCell ⟨g, k, none⟩ (.int .i64 v)) (Value.slice (some ⟨g, 0, none⟩) n cap).ownBlock := by
  have h2 := (Kd.R_putg h (k : Int) v).2
  rw [Int.toNat_natCast] at h2
  simpa [Value.ownBlock] using h2

set_option maxHeartbeats 1000000 in
theorem laws_markIntS (l : List Int) (k : Int) (A : Option Addr) (c base : Nat) (w : World) (HO0 : Kd.R (Kd.int .i64) 3 w base (fun _ => True) (.slice A l.length c) l) (hn : l.length ≤ 2097152) (k0 : 0 ≤ k) (k1 : k ≤ 100000000000000000) :
    Calls Tryz.prog 54 #[.slice A l.length c, .int .i64 k] w fun e w' => e = .returned (.int .i64 (k + l.length)) ∧ Kd.R (Kd.int .i64) 3 w' base (fun _ => True) (.slice A l.length c) (markL k l.length) ∧ w.grownBy w' (Value.slice A l.length c).ownBlock := by
  go_enter Tryz.func54, Tryz.ntmps54
  go_wp2
  go_loopw [1, 5] (fun v i wr => ∃ (j : Nat) (x : List Int), i = .int .i64 j ∧ v = .int .i64 (k + j) ∧ j ≤ l.length ∧ Hid (x.length = l.length) ∧ Hid (∀ q : Nat, q < j → ri x q = k + q) ∧ Kd.R (Kd.int .i64) 3 wr base (fun _ => True) (.slice A l.length c) x ∧ w.grownBy wr (Value.slice A l.length c).ownBlock) (fun _ i _ => l.length - (intOf i).toNat)
  case atStart => exact ⟨0, l, rfl, by simp, Nat.zero_le _, Lib.hid rfl, Lib.hid fun q h => absurd h (Nat.not_lt_zero _), HO0, World.grownBy.refl _ _⟩
  case round =>
    obtain ⟨j, x, rfl, rfl, hj, HL, HA, HO, HG⟩ := hrel
    by_cases hlt : j < l.length
    · obtain ⟨g, cap, hv, hgb, hgl, cells, HGC⟩ := Kd.R_form HO (by have := HL.out; omega)
      injection hv with hv1 hv2 hv3
      subst hv1
      subst hv3
      clear HGC hv2
      obtain ⟨hx9, hf9⟩ := rowI_cell HO j hlt
      have HP := rowI_set HO j (k + j)
      have HS := Lib.hid HP
      clear HP
      go_wp2
      go_roundw
      case rel => exact ⟨j + 1, x.set j (k + j), by go_num, by first | (push_cast; congr 1; omega) | (congr 1; push_cast; omega) | go_num, by omega, Lib.hid (by rw [List.length_set]; exact HL.out), Lib.hid (upto (fun q hq => by rw [set_get (by have := HL.out; omega) q (by have := HL.out; omega), if_neg (by omega)]; exact HA.out q hq) (by rw [set_get (by have := HL.out; omega) j (by have := HL.out; omega), if_pos rfl])), HS.out, grown_trans HG (rowI_grown HO j _)⟩
      case measure => simp [intOf]; omega
    · go_wp2
      go_ret
      have e : x = markL k l.length := same_get (by rw [HL.out, markL_len]) (fun q hq => by rw [markL_len] at hq; rw [HA.out q (by omega), markL_get _ _ _ hq])
      subst e
      exact ⟨ret_int (by rw [show j = l.length by omega]), HO, HG⟩
set_option maxHeartbeats 1000000 in
theorem laws_heldIntS (n : Nat) (k : Int) (A : Option Addr) (c : Nat) (w : World) (hr0 : Kd.C (Kd.int .i64) w A n (markL k n)) (hn : n ≤ 2097152) (k0 : 0 ≤ k) (k1 : k ≤ 100000000000000000) :
    Calls Tryz.prog 58 #[.slice A n c, .int .i64 k] w fun e w' => e = .returned (.int .i64 (k + n)) ∧ w = w' := by
  have hr : Kd.C (Kd.int .i64) w A (markL k n).length (markL k n) := by rw [markL_len]; exact hr0
  go_enter Tryz.func58, Tryz.ntmps58
  go_wp2
  go_loop [1, 5] (fun v i => ∃ j : Nat, i = .int .i64 j ∧ v = .int .i64 (k + j) ∧ j ≤ n) (fun _ i => n - (intOf i).toNat)
  case atStart => exact ⟨0, rfl, by simp, Nat.zero_le _⟩
  case round =>
    obtain ⟨j, rfl, rfl, hj⟩ := hrel
    by_cases hlt : j < n
    · obtain ⟨b, off, rfl, hb, hx⟩ := rdI_at hr j (by rw [markL_len]; exact hlt)
      have hxj := hx j (by rw [markL_len]; exact hlt)
      rw [markL_get _ _ _ hlt] at hxj
      have e0 := bne_self (k + (j : Int))
      clear hx
      go_wp2
      go_round
      case rel => exact ⟨j + 1, by go_num, by first | (push_cast; congr 1; omega) | (congr 1; push_cast; omega) | go_num, by omega⟩
      case measure => simp [intOf]; omega
    · go_wp2
      go_ret
      exact ⟨ret_int (by rw [show j = n by omega]), rfl⟩
end Go.Proofs.YteeebfeljjghhaaGreat
/- Networks as values: what is read of flits, of rows of rows of flits, of a network's eleven cells. No program. -/
set_option linter.unusedVariables false
set_option linter.unusedSimpArgs false
namespace Go.Proofs.YteeebfeljjghhaaGreat
open Go.RowKit Go.Proofs.YteeebfeljjghhaaGreatW.PrintWords
open NoC

def fCells (x : Flit) : List Value := [.int .i64 x.pk, .int .i64 x.dst, .int .i64 x.cls, .bool x.head, .bool x.tail]
def kF : Kd Flit := Kd.flat 5 fCells (fun _ => rfl) (fun x u hu => by
  simp only [fCells, List.mem_cons, List.not_mem_nil, or_false] at hu
  rcases hu with rfl | rfl | rfl | rfl | rfl <;> rfl)
theorem rdFl_at {w : World} {A : Option Addr} {l : List Flit} (h : kF.C w A l.length l) (k : Nat) (hk : k < l.length) :
    ∃ b off, A = some ⟨b, off, none⟩ ∧ b < w.heap.size ∧ w.cell? ⟨b, off + k * 5, none⟩ = some (.int .i64 (rf l k).pk) ∧ w.cell? ⟨b, off + k * 5 + 1, none⟩ = some (.int .i64 (rf l k).dst) ∧ w.cell? ⟨b, off + k * 5 + 2, none⟩ = some (.int .i64 (rf l k).cls) ∧ w.cell? ⟨b, off + k * 5 + 3, none⟩ = some (.bool (rf l k).head) ∧ w.cell? ⟨b, off + k * 5 + 4, none⟩ = some (.bool (rf l k).tail) := by
  obtain ⟨b, off, rfl, hb, hx⟩ := rdF_at (n := 5) z0 (by omega) h k hk
  exact ⟨b, off, rfl, hb, hx k hk 0 _ rfl, hx k hk 1 _ rfl, hx k hk 2 _ rfl, hx k hk 3 _ rfl, hx k hk 4 _ rfl⟩
def kB (e : Nat) : Kd (List Flit) := Kd.slice e kF
theorem rdB_at {e : Nat} {w : World} {A : Option Addr} {l : List (List Flit)} (h : (kB e).C w A l.length l) (k : Nat) (hk : k < l.length) :
    ∃ b off, A = some ⟨b, off, none⟩ ∧ b < w.heap.size ∧ ∃ Ai ci, w.cell? ⟨b, off + k, none⟩ = some (.slice Ai (rl l k).length ci) ∧ (rl l k).length ≤ ci ∧ kF.C w Ai (rl l k).length (rl l k) := by
  have key : ∀ j, j < l.length → ∃ ad, A = some ad ∧ ∃ Ai ci, w.cell? (ad.add j) = some (.slice Ai (rl l j).length ci) ∧ (rl l j).length ≤ ci ∧ kF.C w Ai (rl l j).length (rl l j) := by
    intro j hj
    obtain ⟨ad, cs, e1, _, hK, hc⟩ := Kd.C_get h [] (j : Int) (by omega) (by omega)
    obtain ⟨Ai, ci, rfl, hle, hC⟩ := hK
    have h1 := hc 0 _ rfl
    rw [Int.toNat_natCast] at h1 hle hC
    refine ⟨ad, e1, Ai, ci, ?_, hle, hC⟩
    have e2 : j * (kB e).sz + 0 = j := by show j * 1 + 0 = j; omega
    rw [e2] at h1
    exact h1
  obtain ⟨ad, rfl, A0, c0, h0, _, _⟩ := key 0 (by omega)
  have hs : ad.spot = none := by
    cases hsp : ad.spot with
    | none => rfl
    | some s =>
      have : ad.add 0 = ad := by simp [Addr.add]
      rw [this] at h0
      unfold World.cell? at h0
      split at h0
      · simp [hsp] at h0
      · simp at h0
  obtain ⟨b, off, sp⟩ := ad
  simp only at hs
  subst hs
  refine ⟨b, off, rfl, World.block_lt_of_cell? w _ h0, ?_⟩
  obtain ⟨ad, e1, Ai, ci, h1, h2, h3⟩ := key k hk
  obtain rfl := Option.some.inj e1
  refine ⟨Ai, ci, ?_, h2, h3⟩
  rwa [show (⟨b, off, none⟩ : Addr).add k = ⟨b, off + k, none⟩ by unfold Addr.add; split <;> simp_all] at h1
structure NA where
  a1 : Option Addr
  a2 : Option Addr
  a3 : Option Addr
  a4 : Option Addr
  a5 : Option Addr
  a6 : Option Addr
  a7 : Option Addr
  a8 : Option Addr
  c1 : Nat
  c2 : Nat
  c3 : Nat
  c4 : Nat
  c5 : Nat
  c6 : Nat
  c7 : Nat
  c8 : Nat
def netCells (n : Net) (q : NA) : Array Value :=
  #[.int .i64 n.mesh.g.w, .int .i64 n.mesh.g.h, .slice q.a1 n.mesh.br.length q.c1, .slice q.a2 n.pa.length q.c2, .slice q.a3 n.pb.length q.c3, .slice q.a4 n.bufs.length q.c4, .slice q.a5 n.owners.length q.c5, .slice q.a6 n.turns.length q.c6, .slice q.a7 n.srcs.length q.c7, .slice q.a8 n.arrs.length q.c8, .int .i64 n.time]
structure NetR (e : Nat) (w : World) (n : Net) (q : NA) : Prop where
  br : Kd.C (Kd.int .i64) w q.a1 n.mesh.br.length n.mesh.br
  pa : Kd.C (Kd.int .i64) w q.a2 n.pa.length n.pa
  pb : Kd.C (Kd.int .i64) w q.a3 n.pb.length n.pb
  bufs : (kB e).C w q.a4 n.bufs.length n.bufs
  owners : Kd.C (Kd.int .i64) w q.a5 n.owners.length n.owners
  turns : Kd.C (Kd.int .i64) w q.a6 n.turns.length n.turns
  srcs : (kB e).C w q.a7 n.srcs.length n.srcs
  arrs : (kB e).C w q.a8 n.arrs.length n.arrs
  h1 : n.mesh.br.length ≤ 2097152
  h2 : n.pa.length ≤ 2097152
  h3 : n.pb.length ≤ 2097152
  h4 : n.bufs.length ≤ 2097152
  h5 : n.owners.length ≤ 2097152
  h6 : n.turns.length ≤ 2097152
  h7 : n.srcs.length ≤ 2097152
  h8 : n.arrs.length ≤ 2097152
  h9 : ∀ l ∈ n.bufs, l.length ≤ 2097152
  h10 : ∀ l ∈ n.srcs, l.length ≤ 2097152
  h11 : ∀ l ∈ n.arrs, l.length ≤ 2097152
theorem NetR.below {e : Nat} {w w1 : World} {n : Net} {q : NA} (h : NetR e w n q) (hb : Below w.heap.size w w1) : NetR e w1 n q :=
  ⟨Kd.C_below h.br hb, Kd.C_below h.pa hb, Kd.C_below h.pb hb, Kd.C_below h.bufs hb, Kd.C_below h.owners hb, Kd.C_below h.turns hb, Kd.C_below h.srcs hb, Kd.C_below h.arrs hb, h.h1, h.h2, h.h3, h.h4, h.h5, h.h6, h.h7, h.h8, h.h9, h.h10, h.h11⟩
end Go.Proofs.YteeebfeljjghhaaGreat
/- Flits: rows of them, and the laws' own words: measure, copy, compare, mark; for all lists of at most a million flits. -/
set_option linter.unusedVariables false
set_option linter.unusedSimpArgs false
namespace Go.Proofs.YteeebfeljjghhaaGreat
open Go.RowKit Go.Proofs.YteeebfeljjghhaaGreatW.PrintWords
open NoC

theorem info_F : (Tryz.prog.info? 103).map (fun i => (i.zero, i.size, i.bytes)) = some (some (.agg #[.int .i64 0, .int .i64 0, .int .i64 0, .bool false, .bool false]), 5, 32) := by kernel_rfl
def GotF (w w' : World) (xs : List Flit) (e : Ending) : Prop := ∃ v, e = .returned v ∧ kF.R 103 w' w.heap.size (fun _ => True) v xs
theorem GotF.read {w w' : World} {xs : List Flit} {e : Ending} (h : GotF w w' xs e) : ∃ A c, e = .returned (.slice A xs.length c) ∧ xs.length ≤ c ∧ kF.C w' A xs.length xs := by
  obtain ⟨v, rfl, hR⟩ := h
  obtain ⟨A, c, rfl, h1, h2⟩ := Kd.R_reads hR
  exact ⟨A, c, rfl, h1, h2⟩
section
variable {ops : Array Oper} {rest : List Oper} {o : Oper} {a : Act} {Q : Exit → Act → World → Prop}
theorem make_F {W0 W : World} (hgd : o.guard = none) {N : Tmp} (hd : o.dst = some N) (x y : Operand) (ho : o.op = .makeSlice 100 x y) (n : Nat) (hx : a.eval x = .int .i64 n) (hy : a.eval y = .int .i64 n)
    (hl : n ≤ 1000000000) (HB : Below W0.heap.size W0 W)
    (h : ∀ v1 w1, kF.R 103 w1 W0.heap.size (fun _ => True) v1 (List.replicate n z0) → Below W0.heap.size W0 w1 → wpList Tryz.prog ops Q rest (a.put o.dst v1) w1) : wpList Tryz.prog ops Q (o :: rest) a W :=
  Kd.R_make kF (w0 := W0) W0.heap.size 103 hgd hd 100 x y ho (n : Int) hx hy Tryz.underlying100 (.agg #[.int .i64 0, .int .i64 0, .int .i64 0, .bool false, .bool false]) 32 info_F rfl (by decide) (by omega) z0 (ok := fun _ => True) (okp := fun _ => True) rfl (fun _ hk => hk) trivial (by omega) (by simp; omega) HB HB.size
    (fun v1 w1 h1 h2 _ _ => h v1 w1 (by simpa using h1) h2)
theorem put_F {W0 W : World} (hN : o.dst = none) (hgd : o.guard = none) (p x : Operand) (ho : o.op = .store 103 p x) {g m cap o' : Nat} (k : Nat) (xs : List Flit) (y : Flit)
    (haddr : a.eval p = .pointer (some ⟨g, o', none⟩)) (hoff : o' = k * 5) (hx : a.eval x = (.agg #[.int .i64 y.pk, .int .i64 y.dst, .int .i64 y.cls, .bool y.head, .bool y.tail])) (HO : kF.R 103 W W0.heap.size (fun _ => True) (.slice (some ⟨g, 0, none⟩) m cap) xs) (hk : k < m) (HB : Below W0.heap.size W0 W)
    (h : ∀ w1, kF.R 103 w1 W0.heap.size (fun _ => True) (.slice (some ⟨g, 0, none⟩) m cap) (xs.set k y) → Below W0.heap.size W0 w1 → W.grownBy w1 (some g) → wpList Tryz.prog ops Q rest a w1) : wpList Tryz.prog ops Q (o :: rest) a W := by
  have hc := rowF_cell z0 HO k hk
  refine Kd.R_store kF (w0 := W0) W0.heap.size hN hgd 103 p x ho 103 (k : Int) 0 xs y ((.agg #[.int .i64 y.pk, .int .i64 y.dst, .int .i64 y.cls, .bool y.head, .bool y.tail])) (fCells y) (fCells (xs.getD k z0)) (fun _ => True) (fun _ => False) haddr (by rw [hoff]; rfl) hx rfl (by kernel_rfl) ?_ HO (by omega) (by omega) rfl ?_ (by show 0 + 5 ≤ 5; omega) ?_ (fun _ h => h.elim) HB ?_
  · intro q hq
    simp only [fCells, List.mem_cons, List.not_mem_nil, or_false] at hq
    rcases hq with rfl | rfl | rfl | rfl | rfl <;> rfl
  · exact hc.1
  · rfl
  · intro w1 h1 h2 h3
    exact h w1 h1 h2 h3
end

theorem laws_toFlit (p : Flit) (w : World) : Calls Tryz.prog 119 #[.agg #[.int .i64 p.pk, .int .i64 p.dst, .int .i64 p.cls, .bool p.head, .bool p.tail]] w fun e w' => e = .returned (.agg #[.int .i64 p.pk, .int .i64 p.dst, .int .i64 p.cls, .bool p.head, .bool p.tail]) ∧ Below w.heap.size w w' := by
  go_enter Tryz.func119, Tryz.ntmps119
  go_wp2
  exact bodyPost_ret (v := .agg #[.int .i64 p.pk, .int .i64 p.dst, .int .i64 p.cls, .bool p.head, .bool p.tail]) (by simp [results, Tryz.results119, go_sem]) rfl ⟨rfl, bel⟩
theorem same_getF {x l : List Flit} (h1 : x.length = l.length) (h : ∀ j : Nat, j < l.length → rf x j = rf l j) : x = l := by
  apply List.ext_getElem h1
  intro j a b
  have := h j b
  simpa [rf, List.getD_eq_getElem?_getD, a, b] using this
theorem set_getF {x : List Flit} {k : Nat} {v : Flit} (hk : k < x.length) (j : Nat) (hj : j < x.length) : rf (x.set k v) j = if k = j then v else rf x j := by
  by_cases e : k = j
  · subst e; simp [rf, List.getD_eq_getElem?_getD, hk]
  · simp [rf, List.getD_eq_getElem?_getD, e]

set_option maxHeartbeats 1000000 in
theorem laws_toFlitS (l : List Flit) (A : Option Addr) (c : Nat) (w : World) (hr : kF.C w A l.length l) (hn : l.length ≤ 2097152) :
    Calls Tryz.prog 85 #[.slice A l.length c] w fun e w' => GotF w w' l e ∧ Below w.heap.size w w' := by
  go_enter Tryz.func85, Tryz.ntmps85
  go_wp2_with (first | (refine make_F (W0 := w) rfl (N := 7) rfl (.tmp 6) (.tmp 6) rfl l.length rfl rfl (by omega) bel ?_; intro v1 w1 HO1 HB1; obtain ⟨hc1, hf1, hz1⟩ := bcell HB1; (try simp only [szs] at hz1); have hb2 := HB1; have hb9 := HB1))
  go_loopw [4] (fun i wr => ∃ (k : Nat) (x : List Flit), i = .int .i64 k ∧ k ≤ l.length ∧ Hid (x.length = l.length) ∧ Hid (∀ j : Nat, j < k → rf x j = rf l j) ∧ kF.R 103 wr w.heap.size (fun _ => True) v1 x ∧ Below w.heap.size w wr) (fun i _ => l.length - (intOf i).toNat)
  case atStart => exact ⟨0, List.replicate l.length z0, rfl, Nat.zero_le _, Lib.hid (by simp), Lib.hid fun j h => absurd h (Nat.not_lt_zero _), HO1, HB1⟩
  case round =>
    obtain ⟨k, x, rfl, hk, HL, HA, HO, HB⟩ := hrel
    obtain ⟨hc0, hf0, hz0⟩ := bcell HB
    by_cases hlt : k < l.length
    · obtain ⟨b, off, rfl, hb, p0, p1, p2, p3, p4⟩ := rdFl_at hr k hlt
      obtain ⟨g, cap, hv, hgb, hgl, cells, HG⟩ := Kd.R_form HO (by have := HL.out; omega)
      rw [HL.out] at hv
      rw [hv] at HO
      subst hv
      clear HG
      go_wp2_with (first | (go_at_call 119; refine (laws_toFlit (rf l k) _).mono ?_; rintro e w1 ⟨rfl, hb1⟩; obtain ⟨hc1, hf1, hz1⟩ := bcell hb1; (try simp only [szs] at hz1); have hb2 := (by first | exact bw_then hb2 hb1 | exact bw_then (bw_drewN _ hb2) hb1 | exact bw_then (bw_alloc _ hb2) hb1 | exact bw_then (bw_drew hb2) hb1 | exact bw_then HB hb1 | exact bw_then (bw_drewN _ HB) hb1 | exact bw_then (bw_alloc _ HB) hb1 | exact bw_then (bw_drew HB) hb1 | exact hb1); obtain ⟨hc2, hf2, hz2⟩ := bcell hb2; (try simp only [szs] at hz2); try (first | obtain ⟨hy1, hy2, hy3, hy4⟩ := lts4 hz2 | obtain ⟨hy1, hy2, hy3⟩ := lts3 hz2 | obtain ⟨hy1, hy2⟩ := lts2 hz2 | have hy1 := lts1 hz2); have hb9 := hb1) | (refine put_F (W0 := w) rfl rfl (.tmp 21) (.tmp 20) rfl k x (rf l k) rfl (by simp) rfl (by exact Kd.R_below HO bel) hlt bel ?_; intro w9 HO9 HB9 HG9))
      go_roundw
      case rel => exact ⟨k + 1, x.set k (rf l k), by go_num, by omega, Lib.hid (by rw [List.length_set]; exact HL.out), Lib.hid (upto (fun j hj => by rw [set_getF (by have := HL.out; omega) j (by have := HL.out; omega), if_neg (by omega)]; exact HA.out j hj) (by rw [set_getF (by have := HL.out; omega) k (by have := HL.out; omega), if_pos rfl])), HO9, HB9⟩
      case measure => simp [intOf]; omega
    · go_wp2
      go_ret
      have e : x = l := same_getF HL.out (fun j hj => HA.out j (by omega))
      subst e
      exact ⟨⟨_, rfl, HO⟩, bel⟩
theorem bneb_self (b : Bool) : (b != b) = false := by cases b <;> rfl
theorem laws_eqFlit (p : Flit) (w : World) : Calls Tryz.prog 128 #[.agg #[.int .i64 p.pk, .int .i64 p.dst, .int .i64 p.cls, .bool p.head, .bool p.tail], .agg #[.int .i64 p.pk, .int .i64 p.dst, .int .i64 p.cls, .bool p.head, .bool p.tail]] w fun e w' => e = .returned (.bool true) ∧ Below w.heap.size w w' := by
  have e1 := bne_self p.pk
  have e2 := bne_self p.dst
  have e3 := bne_self p.cls
  have e4 := bneb_self p.head
  have e5 := bneb_self p.tail
  go_enter Tryz.func128, Tryz.ntmps128
  go_wp2
  try (go_quiet (fail); go_wp2)
  try (go_quiet (fail); go_wp2)
  try (go_quiet (fail); go_wp2)
  try (go_quiet (fail); go_wp2)
  try (go_quiet (fail); go_wp2)
  go_ret
  exact ⟨rfl, bel⟩
theorem laws_eqFlitS (l : List Flit) (A B : Option Addr) (c d : Nat) (w : World) (hr : kF.C w A l.length l) (hs : kF.C w B l.length l) (hn : l.length ≤ 2097152) :
    Calls Tryz.prog 101 #[.slice A l.length c, .slice B l.length d] w fun e w' => e = .returned (.bool true) ∧ Below w.heap.size w w' := by
  have e0 := bne_self (l.length : Int)
  go_enter Tryz.func101, Tryz.ntmps101
  go_wp2
  try (go_quiet (fail); go_wp2)
  go_loopw [5] (fun i wr => ∃ k : Nat, k ≤ l.length ∧ i = .int .i64 k ∧ Below w.heap.size w wr) (fun i _ => l.length - (intOf i).toNat)
  case atStart => exact ⟨0, Nat.zero_le _, rfl, bel⟩
  case round =>
    obtain ⟨k, hk, rfl, HB⟩ := hrel
    obtain ⟨hc0, hf0, hz0⟩ := bcell HB
    by_cases hlt : k < l.length
    · obtain ⟨b1, o1, rfl, hb1, p0, p1, p2, p3, p4⟩ := rdFl_at hr k hlt
      obtain ⟨b2, o2, rfl, hb2, q0, q1, q2, q3, q4⟩ := rdFl_at hs k hlt
      have i0 : (0 : Int) ≤ (k : Int) := by omega
      have i1 : (k : Int) < (l.length : Int) := by omega
      go_wp2_with fail
      refine wp_region_far (w) (by kernel_rfl) (by kernel_rfl) bel ?_
      have hqc := far_cell (w)
      have hqf := far_frozen (w)
      repeat (first | go_big_quiet_step ((go_at_call 128; exact far_call (laws_eqFlit (rf l k) _))) | quiet_step ((go_at_call 128; exact far_call (laws_eqFlit (rf l k) _))))
      refine wpQuiet_nil ?_
      intro wq hbq
      clear hqc hqf
      obtain ⟨hcq, hfq, hzq⟩ := bcell hbq
      try simp only [szs] at hzq
      go_wp2
      go_roundw
      case rel => exact ⟨k + 1, by omega, by go_num, bel⟩
      case measure => simp [intOf]; omega
    · go_wp2
      go_ret
      exact ⟨rfl, bel⟩
end Go.Proofs.YteeebfeljjghhaaGreat
