/- The hottest channels: what the program and the reference return; for all meshes, tables and lists of at most a million entries. -/
import Derived.Test.YtcaipmhfgjafjaaLoadsD
import Derived.Test.YtcaipmhfgjafjaaMark
set_option linter.unusedVariables false
set_option linter.unusedSimpArgs false
namespace Go.Proofs.Ytcaipmhfgjafjaa
open Go.RowKit Go.Proofs.YtcaipmhfgjafjaaW.PrintWords
open NoC

section
variable {P : Program} {ops : Array Oper} {rest : List Oper} {o : Oper} {a : Act} {Q : Exit → Act → World → Prop}
/-- append, with what it leaves alone. -/
theorem app_intG {W0 W : World} (hgd : o.guard = none) (s x : Operand) (t e : TypeId)
    (ho : o.op = .call { callee := .builtin .append, args := #[s, x], argTypes := #[t, t] })
    (ht : P.underlying t = some (.slice e)) (hinfo : (P.info? e).map (fun i => (i.zero, i.size, i.bytes)) = some (some (.int .i64 0), 1, 8))
    (v : Value) (xs : List Int) (y : Int) (hs : a.eval s = v) (hx : a.eval x = .slice (some ⟨W.heap.size, 0, none⟩) 1 1)
    (HO : Kd.R (Kd.int .i64) e W W0.heap.size (fun _ => True) v xs) (HB : Below W0.heap.size W0 W) (hl : xs.length ≤ 1000000000)
    (h : ∀ v1 w1, Kd.R (Kd.int .i64) e w1 W0.heap.size (fun _ => True) v1 (xs ++ [y]) → Below W0.heap.size W0 w1 → W.grownBy w1 v.ownBlock → (v1.ownBlock = v.ownBlock ∨ ∃ b, v1.ownBlock = some b ∧ W.heap.size ≤ b) → wpList P ops Q rest (a.put o.dst v1) w1) :
    wpList P ops Q (o :: rest) a (W.alloc (.cells #[.int .i64 y] e)) :=
  Kd.R_append (Kd.int .i64) W0.heap.size hgd s x t e (.int .i64 0) 8 ho ht hinfo rfl (by decide) (by omega) v xs y [.int .i64 y] (fun _ => True) (fun _ => False) hs hx rfl (fun _ hk => hk.elim) (fun _ _ => trivial) HO HB HB.size (by omega) h
end
theorem apart_step {W : World} {u v v1 : Value} (h : Apart u v) (hat : v1.ownBlock = v.ownBlock ∨ ∃ b, v1.ownBlock = some b ∧ W.heap.size ≤ b) (hu : ∀ k, u.ownBlock = some k → k < W.heap.size) : Apart u v1 := by
  rcases h with h | h
  · exact .inl h
  · right
    rcases hat with hat | ⟨b, hb, hle⟩
    · rw [hat]; exact h
    · intro e
      have := hu b (by rw [e, hb])
      omega
theorem hottest_len (m : Mesh) (pa pb : List Int) (l : List Packet) : (hottest m pa pb l).length ≤ 64 := by
  unfold hottest
  split
  · simp
  · exact Nat.le_trans (hotTo_len _ _ _) (chans_le m)

set_option maxHeartbeats 2000000 in
set_option maxRecDepth 100000 in
theorem impl_HottestChannels (m : Mesh) (pa pb : List Int) (l : List Packet) (A B C D : Option Addr) (c d k n : Nat) (w : World) (hr : Kd.C (Kd.int .i64) w A m.br.length m.br) (hn : m.br.length ≤ 1048576) (ha : Kd.C (Kd.int .i64) w B pa.length pa) (hka : pa.length ≤ 1048576) (hb : Kd.C (Kd.int .i64) w C pb.length pb) (hkb : pb.length ≤ 1048576) (hp : kP.C w D l.length l) (hkl : l.length ≤ 1048576) :
    Calls Try.prog 38 #[.agg #[.int .i64 m.g.w, .int .i64 m.g.h, .slice A m.br.length c], .agg #[.slice B pa.length d, .slice C pb.length k], .slice D l.length n] w fun e w' => GotI w w' (hottest m pa pb l) e ∧ Below w.heap.size w w' := by
  obtain ⟨q0, q1⟩ := maxLoadL_range m pa pb l hkl
  obtain ⟨most, hmost⟩ : ∃ x, maxLoadL m pa pb l = x := ⟨_, rfl⟩
  rw [hmost] at q0 q1
  have HM := Lib.hid hmost
  go_enter Try.func38, Try.ntmps38
  by_cases hpos : most ≤ 0
  · have HH := Lib.hid (hottest_no (by rw [hmost]; exact hpos))
    clear hmost
    go_wp2_with (go_at_call 28; refine (impl_MaxLoad m pa pb l _ _ _ _ _ _ _ _ _ (by exact Kd.C_below hr (by with_reducible repeat (first | assumption | exact bw_refl _ | apply bw_alloc | apply bw_drew | apply bw_drewN | refine bw_set _ ?_ (by omega) | refine bw_then ?_ (by assumption)))) hn (by exact Kd.C_below ha (by with_reducible repeat (first | assumption | exact bw_refl _ | apply bw_alloc | apply bw_drew | apply bw_drewN | refine bw_set _ ?_ (by omega) | refine bw_then ?_ (by assumption)))) hka (by exact Kd.C_below hb (by with_reducible repeat (first | assumption | exact bw_refl _ | apply bw_alloc | apply bw_drew | apply bw_drewN | refine bw_set _ ?_ (by omega) | refine bw_then ?_ (by assumption)))) hkb (by exact Kd.C_below hp (by with_reducible repeat (first | assumption | exact bw_refl _ | apply bw_alloc | apply bw_drew | apply bw_drewN | refine bw_set _ ?_ (by omega) | refine bw_then ?_ (by assumption)))) hkl).mono ?_; rintro e w1 ⟨he, hb1⟩; rw [HM.out] at he; subst he; obtain ⟨hc1, hf1, hz1⟩ := bcell hb1; (try simp only [World.size_alloc, World.size_setCell, World.size_drew, sz_drewN] at hz1); have hb2 := (by first | exact bw_then hb2 hb1 | exact bw_then (bw_drewN _ hb2) hb1 | exact bw_then (bw_alloc _ hb2) hb1 | exact bw_then (bw_drew hb2) hb1 | exact bw_then HB hb1 | exact bw_then (bw_drewN _ HB) hb1 | exact bw_then (bw_alloc _ HB) hb1 | exact bw_then (bw_drew HB) hb1 | exact hb1); obtain ⟨hc2, hf2, hz2⟩ := bcell hb2; (try simp only [World.size_alloc, World.size_setCell, World.size_drew, sz_drewN] at hz2); try (first | obtain ⟨hy1, hy2, hy3, hy4⟩ := lts4 hz2 | obtain ⟨hy1, hy2, hy3⟩ := lts3 hz2 | obtain ⟨hy1, hy2⟩ := lts2 hz2 | have hy1 := lts1 hz2); have hb9 := hb1)
    try go_region_held3 (fun w' => Below (((w.alloc (.cells #[.int .i64 m.g.w, .int .i64 m.g.h, .slice A m.br.length c] 38)).alloc (.cells #[.slice B pa.length d, .slice C pb.length k] 42)).alloc (.cells #[] 3)).heap.size (((w.alloc (.cells #[.int .i64 m.g.w, .int .i64 m.g.h, .slice A m.br.length c] 38)).alloc (.cells #[.slice B pa.length d, .slice C pb.length k] 42)).alloc (.cells #[] 3)) w' ∧ ∀ bq oq, bq < (((w.alloc (.cells #[.int .i64 m.g.w, .int .i64 m.g.h, .slice A m.br.length c] 38)).alloc (.cells #[.slice B pa.length d, .slice C pb.length k] 42)).alloc (.cells #[] 3)).heap.size → w'.cell? ⟨bq, oq, none⟩ = (((w.alloc (.cells #[.int .i64 m.g.w, .int .i64 m.g.h, .slice A m.br.length c] 38)).alloc (.cells #[.slice B pa.length d, .slice C pb.length k] 42)).alloc (.cells #[] 3)).cell? ⟨bq, oq, none⟩) (first | exact far_of (by with_reducible repeat (first | assumption | exact bw_refl _ | apply bw_alloc | apply bw_drew | apply bw_drewN | refine bw_set _ ?_ (by omega) | refine bw_then ?_ (by assumption)))) ( (go_at_call 28; refine (impl_MaxLoad m pa pb l _ _ _ _ _ _ _ _ _ (by exact Kd.C_below hr (by with_reducible repeat (first | assumption | exact bw_refl _ | apply bw_alloc | apply bw_drew | apply bw_drewN | refine bw_set _ ?_ (by omega) | refine bw_then ?_ (by assumption)))) hn (by exact Kd.C_below ha (by with_reducible repeat (first | assumption | exact bw_refl _ | apply bw_alloc | apply bw_drew | apply bw_drewN | refine bw_set _ ?_ (by omega) | refine bw_then ?_ (by assumption)))) hka (by exact Kd.C_below hb (by with_reducible repeat (first | assumption | exact bw_refl _ | apply bw_alloc | apply bw_drew | apply bw_drewN | refine bw_set _ ?_ (by omega) | refine bw_then ?_ (by assumption)))) hkb (by exact Kd.C_below hp (by with_reducible repeat (first | assumption | exact bw_refl _ | apply bw_alloc | apply bw_drew | apply bw_drewN | refine bw_set _ ?_ (by omega) | refine bw_then ?_ (by assumption)))) hkl).mono ?_; rintro e w1 ⟨he, hb1⟩; rw [HM.out] at he; subst he; obtain ⟨hc1, hf1, hz1⟩ := bcell hb1; (try simp only [World.size_alloc, World.size_setCell, World.size_drew, sz_drewN] at hz1); have hb2 := (by first | exact bw_then hb2 hb1 | exact bw_then (bw_drewN _ hb2) hb1 | exact bw_then (bw_alloc _ hb2) hb1 | exact bw_then (bw_drew hb2) hb1 | exact bw_then HB hb1 | exact bw_then (bw_drewN _ HB) hb1 | exact bw_then (bw_alloc _ HB) hb1 | exact bw_then (bw_drew HB) hb1 | exact hb1); obtain ⟨hc2, hf2, hz2⟩ := bcell hb2; (try simp only [World.size_alloc, World.size_setCell, World.size_drew, sz_drewN] at hz2); try (first | obtain ⟨hy1, hy2, hy3, hy4⟩ := lts4 hz2 | obtain ⟨hy1, hy2, hy3⟩ := lts3 hz2 | obtain ⟨hy1, hy2⟩ := lts2 hz2 | have hy1 := lts1 hz2); have hb9 := hb1))
    try go_wp2
    go_ret
    exact ⟨by rw [HH.out]; exact GotI.mk (W0 := ((w.alloc (.cells #[.int .i64 m.g.w, .int .i64 m.g.h, .slice A m.br.length c] 38)).alloc (.cells #[.slice B pa.length d, .slice C pb.length k] 42))) (by first | exact Kd.R_below (R_empty (W0 := ((w.alloc (.cells #[.int .i64 m.g.w, .int .i64 m.g.h, .slice A m.br.length c] 38)).alloc (.cells #[.slice B pa.length d, .slice C pb.length k] 42))) _ _ (Nat.le_refl _)) (by with_reducible repeat (first | assumption | exact bw_refl _ | apply bw_alloc | apply bw_drew | apply bw_drewN | refine bw_set _ ?_ (by omega) | refine bw_then ?_ (by assumption))) | exact Kd.R_below (R_empty' (W0 := ((w.alloc (.cells #[.int .i64 m.g.w, .int .i64 m.g.h, .slice A m.br.length c] 38)).alloc (.cells #[.slice B pa.length d, .slice C pb.length k] 42))) _ _ (Nat.le_refl _) _ (by simp)) (by with_reducible repeat (first | assumption | exact bw_refl _ | apply bw_alloc | apply bw_drew | apply bw_drewN | refine bw_set _ ?_ (by omega) | refine bw_then ?_ (by assumption)))) (by simp only [World.size_alloc, World.size_setCell, World.size_drew, sz_drewN]; omega), (by with_reducible repeat (first | assumption | exact bw_refl _ | apply bw_alloc | apply bw_drew | apply bw_drewN | refine bw_set _ ?_ (by omega) | refine bw_then ?_ (by assumption)))⟩
  obtain ⟨hok, hhot⟩ := hottest_yes (m := m) (pa := pa) (pb := pb) (l := l) (by omega)
  have hall := (arePk_parts hok).2
  have hps := arePk_count hok
  have HALL := Lib.hid hall
  have HPOS := Lib.hid hps
  have HLO := Lib.hid (loadsOf_yes hok)
  have hll := loadsOf_len m pa pb l
  rw [hmost] at hhot
  have HHOT := Lib.hid hhot
  clear hmost hhot hall hps hok
  go_wp2_with (go_at_call 28; refine (impl_MaxLoad m pa pb l _ _ _ _ _ _ _ _ _ (by exact Kd.C_below hr (by with_reducible repeat (first | assumption | exact bw_refl _ | apply bw_alloc | apply bw_drew | apply bw_drewN | refine bw_set _ ?_ (by omega) | refine bw_then ?_ (by assumption)))) hn (by exact Kd.C_below ha (by with_reducible repeat (first | assumption | exact bw_refl _ | apply bw_alloc | apply bw_drew | apply bw_drewN | refine bw_set _ ?_ (by omega) | refine bw_then ?_ (by assumption)))) hka (by exact Kd.C_below hb (by with_reducible repeat (first | assumption | exact bw_refl _ | apply bw_alloc | apply bw_drew | apply bw_drewN | refine bw_set _ ?_ (by omega) | refine bw_then ?_ (by assumption)))) hkb (by exact Kd.C_below hp (by with_reducible repeat (first | assumption | exact bw_refl _ | apply bw_alloc | apply bw_drew | apply bw_drewN | refine bw_set _ ?_ (by omega) | refine bw_then ?_ (by assumption)))) hkl).mono ?_; rintro e w1 ⟨he, hb1⟩; rw [HM.out] at he; subst he; obtain ⟨hc1, hf1, hz1⟩ := bcell hb1; (try simp only [World.size_alloc, World.size_setCell, World.size_drew, sz_drewN] at hz1); have hb2 := (by first | exact bw_then hb2 hb1 | exact bw_then (bw_drewN _ hb2) hb1 | exact bw_then (bw_alloc _ hb2) hb1 | exact bw_then (bw_drew hb2) hb1 | exact bw_then HB hb1 | exact bw_then (bw_drewN _ HB) hb1 | exact bw_then (bw_alloc _ HB) hb1 | exact bw_then (bw_drew HB) hb1 | exact hb1); obtain ⟨hc2, hf2, hz2⟩ := bcell hb2; (try simp only [World.size_alloc, World.size_setCell, World.size_drew, sz_drewN] at hz2); try (first | obtain ⟨hy1, hy2, hy3, hy4⟩ := lts4 hz2 | obtain ⟨hy1, hy2, hy3⟩ := lts3 hz2 | obtain ⟨hy1, hy2⟩ := lts2 hz2 | have hy1 := lts1 hz2); have hb9 := hb1)
  try go_region_held3 (fun w' => Below (((w.alloc (.cells #[.int .i64 m.g.w, .int .i64 m.g.h, .slice A m.br.length c] 38)).alloc (.cells #[.slice B pa.length d, .slice C pb.length k] 42)).alloc (.cells #[] 3)).heap.size (((w.alloc (.cells #[.int .i64 m.g.w, .int .i64 m.g.h, .slice A m.br.length c] 38)).alloc (.cells #[.slice B pa.length d, .slice C pb.length k] 42)).alloc (.cells #[] 3)) w' ∧ ∀ bq oq, bq < (((w.alloc (.cells #[.int .i64 m.g.w, .int .i64 m.g.h, .slice A m.br.length c] 38)).alloc (.cells #[.slice B pa.length d, .slice C pb.length k] 42)).alloc (.cells #[] 3)).heap.size → w'.cell? ⟨bq, oq, none⟩ = (((w.alloc (.cells #[.int .i64 m.g.w, .int .i64 m.g.h, .slice A m.br.length c] 38)).alloc (.cells #[.slice B pa.length d, .slice C pb.length k] 42)).alloc (.cells #[] 3)).cell? ⟨bq, oq, none⟩) (first | exact far_of (by with_reducible repeat (first | assumption | exact bw_refl _ | apply bw_alloc | apply bw_drew | apply bw_drewN | refine bw_set _ ?_ (by omega) | refine bw_then ?_ (by assumption)))) ( (go_at_call 28; refine (impl_MaxLoad m pa pb l _ _ _ _ _ _ _ _ _ (by exact Kd.C_below hr (by with_reducible repeat (first | assumption | exact bw_refl _ | apply bw_alloc | apply bw_drew | apply bw_drewN | refine bw_set _ ?_ (by omega) | refine bw_then ?_ (by assumption)))) hn (by exact Kd.C_below ha (by with_reducible repeat (first | assumption | exact bw_refl _ | apply bw_alloc | apply bw_drew | apply bw_drewN | refine bw_set _ ?_ (by omega) | refine bw_then ?_ (by assumption)))) hka (by exact Kd.C_below hb (by with_reducible repeat (first | assumption | exact bw_refl _ | apply bw_alloc | apply bw_drew | apply bw_drewN | refine bw_set _ ?_ (by omega) | refine bw_then ?_ (by assumption)))) hkb (by exact Kd.C_below hp (by with_reducible repeat (first | assumption | exact bw_refl _ | apply bw_alloc | apply bw_drew | apply bw_drewN | refine bw_set _ ?_ (by omega) | refine bw_then ?_ (by assumption)))) hkl).mono ?_; rintro e w1 ⟨he, hb1⟩; rw [HM.out] at he; subst he; obtain ⟨hc1, hf1, hz1⟩ := bcell hb1; (try simp only [World.size_alloc, World.size_setCell, World.size_drew, sz_drewN] at hz1); have hb2 := (by first | exact bw_then hb2 hb1 | exact bw_then (bw_drewN _ hb2) hb1 | exact bw_then (bw_alloc _ hb2) hb1 | exact bw_then (bw_drew hb2) hb1 | exact bw_then HB hb1 | exact bw_then (bw_drewN _ HB) hb1 | exact bw_then (bw_alloc _ HB) hb1 | exact bw_then (bw_drew HB) hb1 | exact hb1); obtain ⟨hc2, hf2, hz2⟩ := bcell hb2; (try simp only [World.size_alloc, World.size_setCell, World.size_drew, sz_drewN] at hz2); try (first | obtain ⟨hy1, hy2, hy3, hy4⟩ := lts4 hz2 | obtain ⟨hy1, hy2, hy3⟩ := lts3 hz2 | obtain ⟨hy1, hy2⟩ := lts2 hz2 | have hy1 := lts1 hz2); have hb9 := hb1))
  go_wp2_with (go_at_call 60; refine (impl_loads m pa pb l _ _ _ _ _ _ _ _ _ (by exact Kd.C_below hr (by with_reducible repeat (first | assumption | exact bw_refl _ | apply bw_alloc | apply bw_drew | apply bw_drewN | refine bw_set _ ?_ (by omega) | refine bw_then ?_ (by assumption)))) hn (by exact Kd.C_below ha (by with_reducible repeat (first | assumption | exact bw_refl _ | apply bw_alloc | apply bw_drew | apply bw_drewN | refine bw_set _ ?_ (by omega) | refine bw_then ?_ (by assumption)))) hka (by exact Kd.C_below hb (by with_reducible repeat (first | assumption | exact bw_refl _ | apply bw_alloc | apply bw_drew | apply bw_drewN | refine bw_set _ ?_ (by omega) | refine bw_then ?_ (by assumption)))) hkb (by exact Kd.C_below hp (by with_reducible repeat (first | assumption | exact bw_refl _ | apply bw_alloc | apply bw_drew | apply bw_drewN | refine bw_set _ ?_ (by omega) | refine bw_then ?_ (by assumption)))) hkl HALL.out HPOS.out).mono ?_; rintro e w1 ⟨hg1, hb1⟩; rw [← HLO.out] at hg1; obtain ⟨v1, rfl, HO1⟩ := hg1; obtain ⟨A1, c1, rfl, hk1, hr1⟩ := Kd.R_reads HO1; obtain ⟨hc1, hf1, hz1⟩ := bcell hb1; (try simp only [World.size_alloc, World.size_setCell, World.size_drew, sz_drewN] at hz1); have hb2 := (by first | exact bw_then hb2 hb1 | exact bw_then (bw_drewN _ hb2) hb1 | exact bw_then (bw_alloc _ hb2) hb1 | exact bw_then (bw_drew hb2) hb1 | exact bw_then HB hb1 | exact bw_then (bw_drewN _ HB) hb1 | exact bw_then (bw_alloc _ HB) hb1 | exact bw_then (bw_drew HB) hb1 | exact hb1); obtain ⟨hc2, hf2, hz2⟩ := bcell hb2; (try simp only [World.size_alloc, World.size_setCell, World.size_drew, sz_drewN] at hz2); try (first | obtain ⟨hy1, hy2, hy3, hy4⟩ := lts4 hz2 | obtain ⟨hy1, hy2, hy3⟩ := lts3 hz2 | obtain ⟨hy1, hy2⟩ := lts2 hz2 | have hy1 := lts1 hz2); have hb9 := hb1)
  generalize hxs : loadsOf m pa pb l = xs at hll HHOT hk1 hr1 HO1 ⊢
  clear hxs hr1 hk1
  have HLR : Kd.R (Kd.int .i64) 3 w1 (((w.alloc (.cells #[.int .i64 m.g.w, .int .i64 m.g.h, .slice A m.br.length c] 38)).alloc (.cells #[.slice B pa.length d, .slice C pb.length k] 42)).alloc (.cells #[] 3)).heap.size (fun _ => True) (.slice A1 xs.length c1) xs := by
    exact Kd.R_below (Kd.R_lower (base' := (((w.alloc (.cells #[.int .i64 m.g.w, .int .i64 m.g.h, .slice A m.br.length c] 38)).alloc (.cells #[.slice B pa.length d, .slice C pb.length k] 42)).alloc (.cells #[] 3)).heap.size) HO1 (bw_size (by with_reducible repeat (first | assumption | exact bw_refl _ | apply bw_alloc | apply bw_drew | apply bw_drewN | refine bw_set _ ?_ (by omega) | refine bw_then ?_ (by assumption))))) (by first | exact bw_refl _ | exact (by with_reducible repeat (first | assumption | exact bw_refl _ | apply bw_alloc | apply bw_drew | apply bw_drewN | refine bw_set _ ?_ (by omega) | refine bw_then ?_ (by assumption))))
  have HB2 : Below (((w.alloc (.cells #[.int .i64 m.g.w, .int .i64 m.g.h, .slice A m.br.length c] 38)).alloc (.cells #[.slice B pa.length d, .slice C pb.length k] 42)).alloc (.cells #[] 3)).heap.size (((w.alloc (.cells #[.int .i64 m.g.w, .int .i64 m.g.h, .slice A m.br.length c] 38)).alloc (.cells #[.slice B pa.length d, .slice C pb.length k] 42)).alloc (.cells #[] 3)) w1 := (by with_reducible repeat (first | assumption | exact bw_refl _ | apply bw_alloc | apply bw_drew | apply bw_drewN | refine bw_set _ ?_ (by omega) | refine bw_then ?_ (by assumption)))
  have hpt : Apart (.slice A1 xs.length c1) (.slice (some ⟨w.heap.size + 2, 0, none⟩) 0 0) := by
    cases e : (Value.slice A1 xs.length c1).ownBlock with
    | none => exact .inl e
    | some k =>
      right
      have h9 := Kd.R_base HLR k e
      simp only [World.size_alloc, World.size_setCell, World.size_drew, sz_drewN] at h9
      intro e2
      have e3 : some k = some (w.heap.size + 2) := e.symm.trans e2
      injection e3 with e3
      omega
  clear HO1
  repeat (first | clear hc1 | clear hf1 | clear hz1 | clear hb1 | clear hb9 | clear hc2 | clear hf2 | clear hz2 | clear hb2 | clear hy1 | clear hy2 | clear hy3 | clear hy4 | clear hap | clear HOm | clear HOa | clear HOb | clear HOp | clear hlm | clear hla | clear hlb | clear hlp | clear hCm | clear hCa | clear hCb | clear hCp | clear Am | clear Aa | clear Ab | clear Ap | clear cm | clear ca | clear cb | clear cp | clear w1)
  obtain ⟨w5, rfl⟩ : ∃ x, x = w1 := ⟨_, rfl⟩
  go_loopw [7, 24] (fun v i wr => ∃ q : Nat, i = .int .i64 q ∧ q ≤ xs.length ∧ Kd.R (Kd.int .i64) 3 wr ((w.alloc (.cells #[.int .i64 m.g.w, .int .i64 m.g.h, .slice A m.br.length c] 38)).alloc (.cells #[.slice B pa.length d, .slice C pb.length k] 42)).heap.size (fun _ => True) v (hotTo xs most q) ∧ Kd.R (Kd.int .i64) 3 wr (((w.alloc (.cells #[.int .i64 m.g.w, .int .i64 m.g.h, .slice A m.br.length c] 38)).alloc (.cells #[.slice B pa.length d, .slice C pb.length k] 42)).alloc (.cells #[] 3)).heap.size (fun _ => True) (.slice A1 xs.length c1) xs ∧ Apart (.slice A1 xs.length c1) v ∧ Below ((w.alloc (.cells #[.int .i64 m.g.w, .int .i64 m.g.h, .slice A m.br.length c] 38)).alloc (.cells #[.slice B pa.length d, .slice C pb.length k] 42)).heap.size ((w.alloc (.cells #[.int .i64 m.g.w, .int .i64 m.g.h, .slice A m.br.length c] 38)).alloc (.cells #[.slice B pa.length d, .slice C pb.length k] 42)) wr) (fun _ i _ => xs.length - (intOf i).toNat)
  case atStart => exact ⟨0, rfl, Nat.zero_le _, Kd.R_below (R_empty' (W0 := ((w.alloc (.cells #[.int .i64 m.g.w, .int .i64 m.g.h, .slice A m.br.length c] 38)).alloc (.cells #[.slice B pa.length d, .slice C pb.length k] 42))) _ _ (Nat.le_refl _) _ (by simp only [World.size_alloc, World.size_setCell, World.size_drew, sz_drewN])) HB2, HLR, hpt, bw_then (bw_alloc _ (bw_refl _)) HB2⟩
  case round =>
    clear HLR hpt HB2
    obtain ⟨q, rfl, hk, HO, HLR, hpt, HB⟩ := hrel
    obtain ⟨Ao, co, rfl⟩ := Kd.R_slice HO
    have hlen := hotTo_len xs most q
    have hrow := (Kd.R_row HLR).2.2
    by_cases hlt : q < xs.length
    · obtain ⟨b, off, rfl, hbl, hx⟩ := rdI_at hrow q hlt
      have hxk := hx q hlt
      clear hx
      by_cases e : ri xs q = most
      · have e1 : (ri xs q == most) = true := beq_iff_eq.2 e
        have HS := Lib.hid (hotTo_yes xs most q e)
        clear e
        go_wp2_with (at_builtin; refine app_intG (W0 := ((w.alloc (.cells #[.int .i64 m.g.w, .int .i64 m.g.h, .slice A m.br.length c] 38)).alloc (.cells #[.slice B pa.length d, .slice C pb.length k] 42))) rfl (.tmp 32) (.tmp 34) 24 3 rfl Try.underlying24 info_int _ (hotTo xs most q) _ rfl rfl (by exact Kd.R_below HO (by with_reducible repeat (first | assumption | exact bw_refl _ | apply bw_alloc | apply bw_drew | apply bw_drewN | refine bw_set _ ?_ (by omega) | refine bw_then ?_ (by assumption)))) (by with_reducible repeat (first | assumption | exact bw_refl _ | apply bw_alloc | apply bw_drew | apply bw_drewN | refine bw_set _ ?_ (by omega) | refine bw_then ?_ (by assumption))) (by omega) ?_; intro v1 w1 HO1 HB1 hg1 hat1)
        go_roundw
        case rel => exact ⟨q + 1, by go_num, by omega, by rw [HS.out]; exact HO1, R_grownI (by exact Kd.R_below HLR (by with_reducible repeat (first | assumption | exact bw_refl _ | apply bw_alloc | apply bw_drew | apply bw_drewN | refine bw_set _ ?_ (by omega) | refine bw_then ?_ (by assumption)))) hg1 hpt, apart_step hpt hat1 (fun u hq => Kd.R_lt (by exact Kd.R_below HLR (by with_reducible repeat (first | assumption | exact bw_refl _ | apply bw_alloc | apply bw_drew | apply bw_drewN | refine bw_set _ ?_ (by omega) | refine bw_then ?_ (by assumption)))) u hq), HB1⟩
        case measure => simp [intOf]; omega
      · have e1 : (ri xs q == most) = false := beq_eq_false_iff_ne.2 e
        have HS := Lib.hid (hotTo_no xs most q e)
        clear e
        go_wp2
        go_roundw
        case rel => exact ⟨q + 1, by go_num, by omega, by rw [HS.out]; exact (by exact Kd.R_below HO (by with_reducible repeat (first | assumption | exact bw_refl _ | apply bw_alloc | apply bw_drew | apply bw_drewN | refine bw_set _ ?_ (by omega) | refine bw_then ?_ (by assumption)))), (by exact Kd.R_below HLR (by with_reducible repeat (first | assumption | exact bw_refl _ | apply bw_alloc | apply bw_drew | apply bw_drewN | refine bw_set _ ?_ (by omega) | refine bw_then ?_ (by assumption)))), hpt, (by with_reducible repeat (first | assumption | exact bw_refl _ | apply bw_alloc | apply bw_drew | apply bw_drewN | refine bw_set _ ?_ (by omega) | refine bw_then ?_ (by assumption)))⟩
        case measure => simp [intOf]; omega
    · go_wp2
      go_ret
      have hke : q = xs.length := by omega
      subst hke
      exact ⟨by rw [HHOT.out]; exact ⟨_, rfl, Kd.R_lower (by exact Kd.R_below HO (by with_reducible repeat (first | assumption | exact bw_refl _ | apply bw_alloc | apply bw_drew | apply bw_drewN | refine bw_set _ ?_ (by omega) | refine bw_then ?_ (by assumption)))) (by simp only [World.size_alloc, World.size_setCell, World.size_drew, sz_drewN]; omega)⟩, (by with_reducible repeat (first | assumption | exact bw_refl _ | apply bw_alloc | apply bw_drew | apply bw_drewN | refine bw_set _ ?_ (by omega) | refine bw_then ?_ (by assumption)))⟩

set_option maxHeartbeats 2000000 in
set_option maxRecDepth 100000 in
theorem spec_HottestChannels (m : Mesh) (pa pb : List Int) (l : List Packet) (A B C D : Option Addr) (c d k n : Nat) (w : World) (hr : Kd.C (Kd.int .i64) w A m.br.length m.br) (hn : m.br.length ≤ 1048576) (ha : Kd.C (Kd.int .i64) w B pa.length pa) (hka : pa.length ≤ 1048576) (hb : Kd.C (Kd.int .i64) w C pb.length pb) (hkb : pb.length ≤ 1048576) (hp : kP.C w D l.length l) (hkl : l.length ≤ 1048576) :
    Calls Try.prog 37 #[.agg #[.int .i64 m.g.w, .int .i64 m.g.h, .slice A m.br.length c], .agg #[.slice B pa.length d, .slice C pb.length k], .slice D l.length n] w fun e w' => GotI w w' (hottest m pa pb l) e ∧ Below w.heap.size w w' := by
  obtain ⟨q0, q1⟩ := maxLoadL_range m pa pb l hkl
  obtain ⟨most, hmost⟩ : ∃ x, maxLoadL m pa pb l = x := ⟨_, rfl⟩
  rw [hmost] at q0 q1
  have HM := Lib.hid hmost
  go_enter Try.func37, Try.ntmps37
  have hll := loadsOf_len m pa pb l
  have hhot : hottest m pa pb l = if most ≤ 0 then [] else hotTo (loadsOf m pa pb l) most (loadsOf m pa pb l).length := by
    by_cases h : most ≤ 0
    · rw [if_pos h, hottest_no (by rw [hmost]; exact h)]
    · rw [if_neg h, (hottest_yes (by omega)).2, hmost]
  have HHOT := Lib.hid hhot
  clear hmost hhot
  by_cases hpos : most ≤ 0
  · have i1 : ¬ (0 : Int) < most := by omega
    have i2 : decide ((0 : Int) < most) = false := decide_eq_false (by omega)
    go_wp2_with (first | (go_at_call 29; refine (spec_LoadsOf m pa pb l _ _ _ _ _ _ _ _ _ (by exact Kd.C_below hr (by with_reducible repeat (first | assumption | exact bw_refl _ | apply bw_alloc | apply bw_drew | apply bw_drewN | refine bw_set _ ?_ (by omega) | refine bw_then ?_ (by assumption)))) hn (by exact Kd.C_below ha (by with_reducible repeat (first | assumption | exact bw_refl _ | apply bw_alloc | apply bw_drew | apply bw_drewN | refine bw_set _ ?_ (by omega) | refine bw_then ?_ (by assumption)))) hka (by exact Kd.C_below hb (by with_reducible repeat (first | assumption | exact bw_refl _ | apply bw_alloc | apply bw_drew | apply bw_drewN | refine bw_set _ ?_ (by omega) | refine bw_then ?_ (by assumption)))) hkb (by exact Kd.C_below hp (by with_reducible repeat (first | assumption | exact bw_refl _ | apply bw_alloc | apply bw_drew | apply bw_drewN | refine bw_set _ ?_ (by omega) | refine bw_then ?_ (by assumption)))) hkl).mono ?_; rintro e w1 ⟨hg1, hb1⟩; obtain ⟨v1, rfl, HO1⟩ := hg1; obtain ⟨A1, c1, rfl, hk1, hr1⟩ := Kd.R_reads HO1; obtain ⟨hc1, hf1, hz1⟩ := bcell hb1; (try simp only [World.size_alloc, World.size_setCell, World.size_drew, sz_drewN] at hz1); have hb2 := (by first | exact bw_then hb2 hb1 | exact bw_then (bw_drewN _ hb2) hb1 | exact bw_then (bw_alloc _ hb2) hb1 | exact bw_then (bw_drew hb2) hb1 | exact bw_then HB hb1 | exact bw_then (bw_drewN _ HB) hb1 | exact bw_then (bw_alloc _ HB) hb1 | exact bw_then (bw_drew HB) hb1 | exact hb1); obtain ⟨hc2, hf2, hz2⟩ := bcell hb2; (try simp only [World.size_alloc, World.size_setCell, World.size_drew, sz_drewN] at hz2); try (first | obtain ⟨hy1, hy2, hy3, hy4⟩ := lts4 hz2 | obtain ⟨hy1, hy2, hy3⟩ := lts3 hz2 | obtain ⟨hy1, hy2⟩ := lts2 hz2 | have hy1 := lts1 hz2); have hb9 := hb1) | (go_at_call 27; refine (spec_MaxLoad m pa pb l _ _ _ _ _ _ _ _ _ (by exact Kd.C_below hr (by with_reducible repeat (first | assumption | exact bw_refl _ | apply bw_alloc | apply bw_drew | apply bw_drewN | refine bw_set _ ?_ (by omega) | refine bw_then ?_ (by assumption)))) hn (by exact Kd.C_below ha (by with_reducible repeat (first | assumption | exact bw_refl _ | apply bw_alloc | apply bw_drew | apply bw_drewN | refine bw_set _ ?_ (by omega) | refine bw_then ?_ (by assumption)))) hka (by exact Kd.C_below hb (by with_reducible repeat (first | assumption | exact bw_refl _ | apply bw_alloc | apply bw_drew | apply bw_drewN | refine bw_set _ ?_ (by omega) | refine bw_then ?_ (by assumption)))) hkb (by exact Kd.C_below hp (by with_reducible repeat (first | assumption | exact bw_refl _ | apply bw_alloc | apply bw_drew | apply bw_drewN | refine bw_set _ ?_ (by omega) | refine bw_then ?_ (by assumption)))) hkl).mono ?_; rintro e w1 ⟨he, hb1⟩; rw [HM.out] at he; subst he; obtain ⟨hc1, hf1, hz1⟩ := bcell hb1; (try simp only [World.size_alloc, World.size_setCell, World.size_drew, sz_drewN] at hz1); have hb2 := (by first | exact bw_then hb2 hb1 | exact bw_then (bw_drewN _ hb2) hb1 | exact bw_then (bw_alloc _ hb2) hb1 | exact bw_then (bw_drew hb2) hb1 | exact bw_then HB hb1 | exact bw_then (bw_drewN _ HB) hb1 | exact bw_then (bw_alloc _ HB) hb1 | exact bw_then (bw_drew HB) hb1 | exact hb1); obtain ⟨hc2, hf2, hz2⟩ := bcell hb2; (try simp only [World.size_alloc, World.size_setCell, World.size_drew, sz_drewN] at hz2); try (first | obtain ⟨hy1, hy2, hy3, hy4⟩ := lts4 hz2 | obtain ⟨hy1, hy2, hy3⟩ := lts3 hz2 | obtain ⟨hy1, hy2⟩ := lts2 hz2 | have hy1 := lts1 hz2); have hb9 := hb1))
    go_loopw [7, 10] (fun v i wr => i = .int .i64 0 ∧ v = .slice (some ⟨w.heap.size + 2, 0, none⟩) 0 0 ∧ Below (((w.alloc (.cells #[.int .i64 m.g.w, .int .i64 m.g.h, .slice A m.br.length c] 38)).alloc (.cells #[.slice B pa.length d, .slice C pb.length k] 42)).alloc (.cells #[] 3)).heap.size (((w.alloc (.cells #[.int .i64 m.g.w, .int .i64 m.g.h, .slice A m.br.length c] 38)).alloc (.cells #[.slice B pa.length d, .slice C pb.length k] 42)).alloc (.cells #[] 3)) wr) (fun _ i _ => 0)
    case atStart => exact ⟨rfl, by first | rfl | (simp; done), (by with_reducible repeat (first | assumption | exact bw_refl _ | apply bw_alloc | apply bw_drew | apply bw_drewN | refine bw_set _ ?_ (by omega) | refine bw_then ?_ (by assumption)))⟩
    case round =>
      obtain ⟨rfl, rfl, HBB⟩ := hrel
      go_wp2
      all_goals (try (go_quiet (fail); go_wp2))
      all_goals go_ret
      all_goals exact ⟨by rw [HHOT.out, if_pos hpos]; exact GotI.mk (W0 := ((w.alloc (.cells #[.int .i64 m.g.w, .int .i64 m.g.h, .slice A m.br.length c] 38)).alloc (.cells #[.slice B pa.length d, .slice C pb.length k] 42))) (Kd.R_below (R_empty' (W0 := ((w.alloc (.cells #[.int .i64 m.g.w, .int .i64 m.g.h, .slice A m.br.length c] 38)).alloc (.cells #[.slice B pa.length d, .slice C pb.length k] 42))) _ _ (Nat.le_refl _) _ (by simp only [World.size_alloc, World.size_setCell, World.size_drew, sz_drewN])) HBB) (by simp only [World.size_alloc, World.size_setCell, World.size_drew, sz_drewN]; omega), (by with_reducible repeat (first | assumption | exact bw_refl _ | apply bw_alloc | apply bw_drew | apply bw_drewN | refine bw_set _ ?_ (by omega) | refine bw_then ?_ (by assumption)))⟩
  have i1 : (0 : Int) < most := by omega
  have i2 : decide ((0 : Int) < most) = true := decide_eq_true (by omega)
  go_wp2_with (first | (go_at_call 29; refine (spec_LoadsOf m pa pb l _ _ _ _ _ _ _ _ _ (by exact Kd.C_below hr (by with_reducible repeat (first | assumption | exact bw_refl _ | apply bw_alloc | apply bw_drew | apply bw_drewN | refine bw_set _ ?_ (by omega) | refine bw_then ?_ (by assumption)))) hn (by exact Kd.C_below ha (by with_reducible repeat (first | assumption | exact bw_refl _ | apply bw_alloc | apply bw_drew | apply bw_drewN | refine bw_set _ ?_ (by omega) | refine bw_then ?_ (by assumption)))) hka (by exact Kd.C_below hb (by with_reducible repeat (first | assumption | exact bw_refl _ | apply bw_alloc | apply bw_drew | apply bw_drewN | refine bw_set _ ?_ (by omega) | refine bw_then ?_ (by assumption)))) hkb (by exact Kd.C_below hp (by with_reducible repeat (first | assumption | exact bw_refl _ | apply bw_alloc | apply bw_drew | apply bw_drewN | refine bw_set _ ?_ (by omega) | refine bw_then ?_ (by assumption)))) hkl).mono ?_; rintro e w1 ⟨hg1, hb1⟩; obtain ⟨v1, rfl, HO1⟩ := hg1; obtain ⟨A1, c1, rfl, hk1, hr1⟩ := Kd.R_reads HO1; obtain ⟨hc1, hf1, hz1⟩ := bcell hb1; (try simp only [World.size_alloc, World.size_setCell, World.size_drew, sz_drewN] at hz1); have hb2 := (by first | exact bw_then hb2 hb1 | exact bw_then (bw_drewN _ hb2) hb1 | exact bw_then (bw_alloc _ hb2) hb1 | exact bw_then (bw_drew hb2) hb1 | exact bw_then HB hb1 | exact bw_then (bw_drewN _ HB) hb1 | exact bw_then (bw_alloc _ HB) hb1 | exact bw_then (bw_drew HB) hb1 | exact hb1); obtain ⟨hc2, hf2, hz2⟩ := bcell hb2; (try simp only [World.size_alloc, World.size_setCell, World.size_drew, sz_drewN] at hz2); try (first | obtain ⟨hy1, hy2, hy3, hy4⟩ := lts4 hz2 | obtain ⟨hy1, hy2, hy3⟩ := lts3 hz2 | obtain ⟨hy1, hy2⟩ := lts2 hz2 | have hy1 := lts1 hz2); have hb9 := hb1) | (go_at_call 27; refine (spec_MaxLoad m pa pb l _ _ _ _ _ _ _ _ _ (by exact Kd.C_below hr (by with_reducible repeat (first | assumption | exact bw_refl _ | apply bw_alloc | apply bw_drew | apply bw_drewN | refine bw_set _ ?_ (by omega) | refine bw_then ?_ (by assumption)))) hn (by exact Kd.C_below ha (by with_reducible repeat (first | assumption | exact bw_refl _ | apply bw_alloc | apply bw_drew | apply bw_drewN | refine bw_set _ ?_ (by omega) | refine bw_then ?_ (by assumption)))) hka (by exact Kd.C_below hb (by with_reducible repeat (first | assumption | exact bw_refl _ | apply bw_alloc | apply bw_drew | apply bw_drewN | refine bw_set _ ?_ (by omega) | refine bw_then ?_ (by assumption)))) hkb (by exact Kd.C_below hp (by with_reducible repeat (first | assumption | exact bw_refl _ | apply bw_alloc | apply bw_drew | apply bw_drewN | refine bw_set _ ?_ (by omega) | refine bw_then ?_ (by assumption)))) hkl).mono ?_; rintro e w1 ⟨he, hb1⟩; rw [HM.out] at he; subst he; obtain ⟨hc1, hf1, hz1⟩ := bcell hb1; (try simp only [World.size_alloc, World.size_setCell, World.size_drew, sz_drewN] at hz1); have hb2 := (by first | exact bw_then hb2 hb1 | exact bw_then (bw_drewN _ hb2) hb1 | exact bw_then (bw_alloc _ hb2) hb1 | exact bw_then (bw_drew hb2) hb1 | exact bw_then HB hb1 | exact bw_then (bw_drewN _ HB) hb1 | exact bw_then (bw_alloc _ HB) hb1 | exact bw_then (bw_drew HB) hb1 | exact hb1); obtain ⟨hc2, hf2, hz2⟩ := bcell hb2; (try simp only [World.size_alloc, World.size_setCell, World.size_drew, sz_drewN] at hz2); try (first | obtain ⟨hy1, hy2, hy3, hy4⟩ := lts4 hz2 | obtain ⟨hy1, hy2, hy3⟩ := lts3 hz2 | obtain ⟨hy1, hy2⟩ := lts2 hz2 | have hy1 := lts1 hz2); have hb9 := hb1))
  generalize hxs : loadsOf m pa pb l = xs at hll HHOT hk1 hr1 HO1 ⊢
  clear hxs hr1 hk1
  have HLR : Kd.R (Kd.int .i64) 3 w1 (((w.alloc (.cells #[.int .i64 m.g.w, .int .i64 m.g.h, .slice A m.br.length c] 38)).alloc (.cells #[.slice B pa.length d, .slice C pb.length k] 42)).alloc (.cells #[] 3)).heap.size (fun _ => True) (.slice A1 xs.length c1) xs := by
    exact Kd.R_below (Kd.R_lower (base' := (((w.alloc (.cells #[.int .i64 m.g.w, .int .i64 m.g.h, .slice A m.br.length c] 38)).alloc (.cells #[.slice B pa.length d, .slice C pb.length k] 42)).alloc (.cells #[] 3)).heap.size) HO1 (bw_size (by with_reducible repeat (first | assumption | exact bw_refl _ | apply bw_alloc | apply bw_drew | apply bw_drewN | refine bw_set _ ?_ (by omega) | refine bw_then ?_ (by assumption))))) (by first | exact bw_refl _ | exact (by with_reducible repeat (first | assumption | exact bw_refl _ | apply bw_alloc | apply bw_drew | apply bw_drewN | refine bw_set _ ?_ (by omega) | refine bw_then ?_ (by assumption))))
  have HB2 : Below (((w.alloc (.cells #[.int .i64 m.g.w, .int .i64 m.g.h, .slice A m.br.length c] 38)).alloc (.cells #[.slice B pa.length d, .slice C pb.length k] 42)).alloc (.cells #[] 3)).heap.size (((w.alloc (.cells #[.int .i64 m.g.w, .int .i64 m.g.h, .slice A m.br.length c] 38)).alloc (.cells #[.slice B pa.length d, .slice C pb.length k] 42)).alloc (.cells #[] 3)) w1 := (by with_reducible repeat (first | assumption | exact bw_refl _ | apply bw_alloc | apply bw_drew | apply bw_drewN | refine bw_set _ ?_ (by omega) | refine bw_then ?_ (by assumption)))
  have hpt : Apart (.slice A1 xs.length c1) (.slice (some ⟨w.heap.size + 2, 0, none⟩) 0 0) := by
    cases e : (Value.slice A1 xs.length c1).ownBlock with
    | none => exact .inl e
    | some k =>
      right
      have h9 := Kd.R_base HLR k e
      simp only [World.size_alloc, World.size_setCell, World.size_drew, sz_drewN] at h9
      intro e2
      have e3 : some k = some (w.heap.size + 2) := e.symm.trans e2
      injection e3 with e3
      omega
  clear HO1
  repeat (first | clear hc1 | clear hf1 | clear hz1 | clear hb1 | clear hb9 | clear hc2 | clear hf2 | clear hz2 | clear hb2 | clear hy1 | clear hy2 | clear hy3 | clear hy4 | clear hap | clear HOm | clear HOa | clear HOb | clear HOp | clear hlm | clear hla | clear hlb | clear hlp | clear hCm | clear hCa | clear hCb | clear hCp | clear Am | clear Aa | clear Ab | clear Ap | clear cm | clear ca | clear cb | clear cp | clear w1)
  obtain ⟨w5, rfl⟩ : ∃ x, x = w1 := ⟨_, rfl⟩
  go_loopw [7, 10] (fun v i wr => ∃ q : Nat, i = .int .i64 q ∧ q ≤ xs.length ∧ Kd.R (Kd.int .i64) 3 wr ((w.alloc (.cells #[.int .i64 m.g.w, .int .i64 m.g.h, .slice A m.br.length c] 38)).alloc (.cells #[.slice B pa.length d, .slice C pb.length k] 42)).heap.size (fun _ => True) v (hotTo xs most q) ∧ Kd.R (Kd.int .i64) 3 wr (((w.alloc (.cells #[.int .i64 m.g.w, .int .i64 m.g.h, .slice A m.br.length c] 38)).alloc (.cells #[.slice B pa.length d, .slice C pb.length k] 42)).alloc (.cells #[] 3)).heap.size (fun _ => True) (.slice A1 xs.length c1) xs ∧ Apart (.slice A1 xs.length c1) v ∧ Below ((w.alloc (.cells #[.int .i64 m.g.w, .int .i64 m.g.h, .slice A m.br.length c] 38)).alloc (.cells #[.slice B pa.length d, .slice C pb.length k] 42)).heap.size ((w.alloc (.cells #[.int .i64 m.g.w, .int .i64 m.g.h, .slice A m.br.length c] 38)).alloc (.cells #[.slice B pa.length d, .slice C pb.length k] 42)) wr) (fun _ i _ => xs.length - (intOf i).toNat)
  case atStart => exact ⟨0, rfl, Nat.zero_le _, Kd.R_below (R_empty' (W0 := ((w.alloc (.cells #[.int .i64 m.g.w, .int .i64 m.g.h, .slice A m.br.length c] 38)).alloc (.cells #[.slice B pa.length d, .slice C pb.length k] 42))) _ _ (Nat.le_refl _) _ (by simp only [World.size_alloc, World.size_setCell, World.size_drew, sz_drewN])) HB2, HLR, hpt, bw_then (bw_alloc _ (bw_refl _)) HB2⟩
  case round =>
    clear HLR hpt HB2
    obtain ⟨q, rfl, hk, HO, HLR, hpt, HB⟩ := hrel
    obtain ⟨Ao, co, rfl⟩ := Kd.R_slice HO
    have hlen := hotTo_len xs most q
    have hrow := (Kd.R_row HLR).2.2
    by_cases hlt : q < xs.length
    · obtain ⟨b, off, rfl, hbl, hx⟩ := rdI_at hrow q hlt
      have hxk := hx q hlt
      clear hx
      by_cases e : ri xs q = most
      · have e1 : (ri xs q == most) = true := beq_iff_eq.2 e
        have HS := Lib.hid (hotTo_yes xs most q e)
        clear e
        go_wp2_with (at_builtin; refine app_intG (W0 := ((w.alloc (.cells #[.int .i64 m.g.w, .int .i64 m.g.h, .slice A m.br.length c] 38)).alloc (.cells #[.slice B pa.length d, .slice C pb.length k] 42))) rfl (.tmp 36) (.tmp 38) 24 3 rfl Try.underlying24 info_int _ (hotTo xs most q) _ rfl rfl (by exact Kd.R_below HO (by with_reducible repeat (first | assumption | exact bw_refl _ | apply bw_alloc | apply bw_drew | apply bw_drewN | refine bw_set _ ?_ (by omega) | refine bw_then ?_ (by assumption)))) (by with_reducible repeat (first | assumption | exact bw_refl _ | apply bw_alloc | apply bw_drew | apply bw_drewN | refine bw_set _ ?_ (by omega) | refine bw_then ?_ (by assumption))) (by omega) ?_; intro v1 w1 HO1 HB1 hg1 hat1)
        go_roundw
        case rel => exact ⟨q + 1, by go_num, by omega, by rw [HS.out]; exact HO1, R_grownI (by exact Kd.R_below HLR (by with_reducible repeat (first | assumption | exact bw_refl _ | apply bw_alloc | apply bw_drew | apply bw_drewN | refine bw_set _ ?_ (by omega) | refine bw_then ?_ (by assumption)))) hg1 hpt, apart_step hpt hat1 (fun u hq => Kd.R_lt (by exact Kd.R_below HLR (by with_reducible repeat (first | assumption | exact bw_refl _ | apply bw_alloc | apply bw_drew | apply bw_drewN | refine bw_set _ ?_ (by omega) | refine bw_then ?_ (by assumption)))) u hq), HB1⟩
        case measure => simp [intOf]; omega
      · have e1 : (ri xs q == most) = false := beq_eq_false_iff_ne.2 e
        have HS := Lib.hid (hotTo_no xs most q e)
        clear e
        go_wp2
        go_roundw
        case rel => exact ⟨q + 1, by go_num, by omega, by rw [HS.out]; exact (by exact Kd.R_below HO (by with_reducible repeat (first | assumption | exact bw_refl _ | apply bw_alloc | apply bw_drew | apply bw_drewN | refine bw_set _ ?_ (by omega) | refine bw_then ?_ (by assumption)))), (by exact Kd.R_below HLR (by with_reducible repeat (first | assumption | exact bw_refl _ | apply bw_alloc | apply bw_drew | apply bw_drewN | refine bw_set _ ?_ (by omega) | refine bw_then ?_ (by assumption)))), hpt, (by with_reducible repeat (first | assumption | exact bw_refl _ | apply bw_alloc | apply bw_drew | apply bw_drewN | refine bw_set _ ?_ (by omega) | refine bw_then ?_ (by assumption)))⟩
        case measure => simp [intOf]; omega
    · go_wp2
      go_ret
      have hke : q = xs.length := by omega
      subst hke
      exact ⟨by rw [HHOT.out, if_neg (by omega)]; exact ⟨_, rfl, Kd.R_lower (by exact Kd.R_below HO (by with_reducible repeat (first | assumption | exact bw_refl _ | apply bw_alloc | apply bw_drew | apply bw_drewN | refine bw_set _ ?_ (by omega) | refine bw_then ?_ (by assumption)))) (by simp only [World.size_alloc, World.size_setCell, World.size_drew, sz_drewN]; omega)⟩, (by with_reducible repeat (first | assumption | exact bw_refl _ | apply bw_alloc | apply bw_drew | apply bw_drewN | refine bw_set _ ?_ (by omega) | refine bw_then ?_ (by assumption)))⟩

end Go.Proofs.Ytcaipmhfgjafjaa
