/-
  StageNone's walk.
-/
import Derived.Test.YtefdemebmibonaaStageAlive
namespace Go.Tru
theorem tidy_kind {e p : Ev} (h : tidy e = some p) : p.kind = e.kind := by
  unfold tidy at h
  by_cases h0 : e.kind = 0
  · simp [h0] at h; subst h; exact h0.symm
  by_cases h1 : e.kind = 1
  · simp [h1] at h; subst h; exact h1.symm
  by_cases h2 : e.kind = 2
  · simp [h2] at h; subst h; exact h2.symm
  by_cases h3 : e.kind = 3
  · simp [h3] at h; subst h; exact h3.symm
  by_cases h4 : e.kind = 4
  · simp [h4] at h; subst h; exact h4.symm
  by_cases h5 : e.kind = 5
  · simp [h5] at h; obtain ⟨_, rfl⟩ := h; exact h5.symm
  by_cases h6 : e.kind = 6
  · simp [h6] at h; obtain ⟨_, rfl⟩ := h; exact h6.symm
  by_cases h7 : e.kind = 7
  · simp [h7] at h; subst h; exact h7.symm
  · simp [h0, h1, h2, h3, h4, h5, h6, h7] at h

theorem tidy_count {e p : Ev} (h : tidy e = some p) (hk : e.kind = 5 ∨ e.kind = 6) : p.count = e.count := by
  unfold tidy at h
  rcases hk with h5 | h6
  · simp [h5] at h; obtain ⟨_, rfl⟩ := h; rfl
  · simp [h6] at h; obtain ⟨_, rfl⟩ := h; rfl

theorem tidy_loose {e p : Ev} (h : tidy e = some p) : p.loose = e.loose := by
  unfold Ev.loose
  rw [tidy_kind h, Bool.eq_iff_iff]
  simp only [decide_eq_true_eq]
  constructor
  · rintro ⟨h1, h2⟩; exact ⟨h1, by rw [← tidy_count h h1]; exact h2⟩
  · rintro ⟨h1, h2⟩; exact ⟨h1, by rw [tidy_count h h1]; exact h2⟩

theorem tidy_text {e p : Ev} (h : tidy e = some p) : p.text.size ≤ e.text.size := by
  have h0 : noText.size = 0 := rfl
  unfold tidy at h
  repeat' split at h
  all_goals first
    | (injection h with h; subst h; simp only [evNull, evBool, evInt, evText, evBytes, evArr, evMap, evEnd, h0]; omega)
    | cases h
end Go.Tru
namespace Go.Proofs.Ytefdemebmibonaa
open Go.RowKit Go.Tru

theorem ev_facts {w : World} {b : Nat} {e : Ev} {t : TypeId} (h : Has w b e.cells t) :
    w.cell? ⟨b, 0, none⟩ = some (.int .i64 e.kind) ∧ w.cell? ⟨b, 1, none⟩ = some (.bool e.yes) ∧ w.cell? ⟨b, 2, none⟩ = some (.int .u64 e.mag) ∧ w.cell? ⟨b, 3, none⟩ = some (.string e.text) ∧ w.cell? ⟨b, 4, none⟩ = some (.int .i64 e.count) :=
  ⟨h.cell 0, h.cell 1, h.cell 2, h.cell 3, h.cell 4⟩

theorem stageNone_long (e : Ev) (m : Bool) (w : World) (ht : e.text.size ≤ maxLen) (h : e.kind = 7 ∨ e.kind ≠ 7 ∧ 300 < e.text.size) :
    Calls Try.prog 7 #[e.val, .bool m] w fun r w' => r = .returned (.bool true) ∧ Keeps [] w w' := by
  unfold maxLen at ht
  have h' : (e.kind == 7) = true ∨ (e.kind == 7) = false ∧ 300 < e.text.size := by simpa using h
  clear h
  simp only [Ev.val, Ev.cells]
  rcases h' with h | ⟨h, h'⟩
  all_goals
    go_enter Try.func7, Try.ntmps7
    go_wp2_with fail
    refine (alive_any _).mono ?_
    rintro r w1 ⟨rfl, k1⟩
    have K1 := Lib.hid k1
    clear k1
    go_wp2_with fail
    go_ret
    exact ⟨rfl, ((Keeps.refl _ _).alloc _).trans K1.out⟩

theorem stageNone_no (e : Ev) (m : Bool) (w : World) (h7 : (e.kind == 7) = false) (ht : e.text.size ≤ 300) (h : tidy e = none) :
    Calls Try.prog 7 #[e.val, .bool m] w fun r w' => r = .returned (.bool true) ∧ Keeps [] w w' := by
  have HT := Lib.hid h
  clear h
  simp only [Ev.val, Ev.cells]
  go_enter Try.func7, Try.ntmps7
  go_wp2_with fail
  refine (alive_any _).mono ?_
  rintro r w1 ⟨rfl, k1⟩
  have HA := Lib.hid ((Has.new w e.cells 30).keeps k1 (by simp))
  obtain ⟨a0, a1, a2, a3, a4⟩ := ev_facts HA.out
  have K1 := Lib.hid (((Keeps.refl [] w).alloc _).trans k1)
  clear k1
  go_wp2_with fail
  refine (of_no e _ HT.out).mono ?_
  rintro r w2 ⟨rfl, k2⟩
  have K2 := Lib.hid (K1.out.trans k2)
  clear k2
  go_wp2_with fail
  go_ret
  exact ⟨rfl, K2.out⟩

set_option maxHeartbeats 1600000 in
set_option maxRecDepth 100000 in
theorem stageNone_loose (e p : Ev) (m : Bool) (w : World) (h7 : (e.kind == 7) = false) (ht : e.text.size ≤ 300) (hti : tidy e = some p) (hk : (e.kind == 5) = true ∨ (e.kind == 5) = false ∧ (e.kind == 6) = true) (hc : e.count < 0) :
    Calls Try.prog 7 #[e.val, .bool m] w fun r w' => r = .returned (.bool true) ∧ Keeps [] w w' := by
  have hl : p.loose = true := by
    rw [tidy_loose hti]
    simp only [beq_iff_eq] at hk
    unfold Ev.loose
    simp only [decide_eq_true_eq]
    exact ⟨hk.imp id (fun h => h.2), hc⟩
  have hstep : (St.new 0).step p = ([], 10, stBad) := by
    have := size_pos p
    simp [St.step, St.new, hl, St.hold, stBad, show 0 < p.size by omega]
  have HSTEP := Lib.hid hstep
  clear hl hstep
  rcases hk with hk | ⟨hk, hk6⟩
  all_goals
    have HT := Lib.hid hti
    have hps : p.text.size ≤ 1000000 := by have := tidy_text hti; omega
    have HPS := Lib.hid hps
    have HCP := Lib.hid (tidy_clear hti)
    clear hti hps
    obtain ⟨pv, hpv⟩ : ∃ pv, p.part = pv := ⟨_, rfl⟩
    have HPV := Lib.hid hpv
    clear hpv
    simp only [Ev.val, Ev.cells]
    go_enter Try.func7, Try.ntmps7
    go_wp2_with fail
    refine (alive_any _).mono ?_
    rintro r w1 ⟨rfl, k1⟩
    have HA := Lib.hid ((Has.new w e.cells 30).keeps k1 (by simp))
    obtain ⟨a0, a1, a2, a3, a4⟩ := ev_facts HA.out
    have K1 := Lib.hid (((Keeps.refl [] w).alloc (.cells #[.int .i64 e.kind, .bool e.yes, .int .u64 e.mag, .string e.text, .int .i64 e.count] 30)).trans k1)
    have z1 := k1.size
    simp only [World.size_alloc] at z1
    clear k1
    go_wp2_with fail
    refine (of_yes e p _ HT.out).mono ?_
    rintro r w2 ⟨rfl, k2⟩
    rw [HPV.out]
    have K2 := Lib.hid (K1.out.trans k2)
    have HA2 := Lib.hid (HA.out.keeps k2 (by simp))
    have z2 := k2.size
    clear k2 HA
    go_wp2_with fail
    refine (new_any 0 w2).mono ?_
    rintro r w3 ⟨rfl, h3, k3⟩
    have H3 := Lib.hid h3
    have K3 := Lib.hid (K2.out.trans k3)
    have HA3 := Lib.hid (HA2.out.keeps k3 (by simp))
    have z3 := k3.size
    clear h3 k3 HA2
    go_wp2_with fail
    have hst := stepped (St.new 0) p HCP.out HPS.out w w3 w2.heap.size w2.heap.size _ _ H3.out (fit_new (by omega)) z3 (Nat.le_refl _) (by omega) K3.out
    rw [HPV.out, HSTEP.out] at hst
    refine hst.mono ?_
    clear hst
    rintro r w4 ⟨v4, hv4, ov4, rfl, hown4, h4, k4, b4, z4⟩
    obtain ⟨a4', c4, rfl⟩ := hown4.shape
    obtain ⟨a0, a1, a2, a3, a4⟩ := ev_facts (HA3.out.below b4 (by omega))
    have H4 := Lib.hid h4
    have K4 := Lib.hid k4
    clear hown4 h4 k4 b4 HA3
    simp only [List.length_nil]
    go_wp2_with fail
    go_ret
    exact ⟨rfl, K4.out⟩

set_option maxHeartbeats 1600000 in
set_option maxRecDepth 100000 in
theorem stageNone_tight (e p : Ev) (m : Bool) (w : World) (h7 : (e.kind == 7) = false) (ht : e.text.size ≤ 300) (hti : tidy e = some p)
    (hk : (e.kind == 5) = true ∧ ¬ e.count < 0 ∨ (e.kind == 5) = false ∧ (e.kind == 6) = true ∧ ¬ e.count < 0 ∨ (e.kind == 5) = false ∧ (e.kind == 6) = false) :
    Calls Try.prog 7 #[e.val, .bool m] w fun r w' => r = .returned (.bool true) ∧ Keeps [] w w' := by
  have hl : p.loose = false := by
    rw [tidy_loose hti]
    simp only [beq_iff_eq, beq_eq_false_iff_ne, ne_eq] at hk
    unfold Ev.loose
    simp only [decide_eq_false_iff_not]
    omega
  have hstep : (St.new 0).step p = ([p], 0, St.new 0) := by
    simp [St.step, St.new, hl]
  have HSTEP := Lib.hid hstep
  have hstep2 : (St.new 0).step (if m then evMap (-1) else evArr (-1)) = ([], 10, stBad) := by cases m <;> rfl
  have HSTEP2 := Lib.hid hstep2
  clear hl hstep hstep2
  rcases hk with ⟨hk, hc⟩ | ⟨hk, hk6, hc⟩ | ⟨hk, hk6⟩
  all_goals
    have HT := Lib.hid hti
    have hps : p.text.size ≤ 1000000 := by have := tidy_text hti; omega
    have HPS := Lib.hid hps
    have HCP := Lib.hid (tidy_clear hti)
    clear hti hps
    obtain ⟨pv, hpv⟩ : ∃ pv, p.part = pv := ⟨_, rfl⟩
    have HPV := Lib.hid hpv
    clear hpv
    simp only [Ev.val, Ev.cells]
    go_enter Try.func7, Try.ntmps7
    go_wp2_with fail
    refine (alive_any _).mono ?_
    rintro r w1 ⟨rfl, k1⟩
    have HA := Lib.hid ((Has.new w e.cells 30).keeps k1 (by simp))
    obtain ⟨a0, a1, a2, a3, a4⟩ := ev_facts HA.out
    have K1 := Lib.hid (((Keeps.refl [] w).alloc (.cells #[.int .i64 e.kind, .bool e.yes, .int .u64 e.mag, .string e.text, .int .i64 e.count] 30)).trans k1)
    have z1 := k1.size
    simp only [World.size_alloc] at z1
    clear k1
    go_wp2_with fail
    refine (of_yes e p _ HT.out).mono ?_
    rintro r w2 ⟨rfl, k2⟩
    rw [HPV.out]
    have K2 := Lib.hid (K1.out.trans k2)
    have HA2 := Lib.hid (HA.out.keeps k2 (by simp))
    have z2 := k2.size
    clear k2 HA
    go_wp2_with fail
    refine (new_any 0 w2).mono ?_
    rintro r w3 ⟨rfl, h3, k3⟩
    have H3 := Lib.hid h3
    have K3 := Lib.hid (K2.out.trans k3)
    have HA3 := Lib.hid (HA2.out.keeps k3 (by simp))
    have z3 := k3.size
    clear h3 k3 HA2
    go_wp2_with fail
    have hst := stepped (St.new 0) p HCP.out HPS.out w w3 w2.heap.size w2.heap.size _ _ H3.out (fit_new (by omega)) z3 (Nat.le_refl _) (by omega) K3.out
    rw [HPV.out, HSTEP.out] at hst
    refine hst.mono ?_
    clear hst
    rintro r w4 ⟨v4, hv4, ov4, rfl, hown4, h4, k4, b4, z4⟩
    obtain ⟨a4', c4, rfl⟩ := hown4.shape
    obtain ⟨a0, a1, a2, a3, a4⟩ := ev_facts (HA3.out.below b4 (by omega))
    have H4 := Lib.hid h4
    have K4 := Lib.hid k4
    clear hown4 h4 k4 b4 HA3
    simp only [List.length_nil, List.length_cons]
    go_wp2_with fail
    have hst := stepped (St.new 0) (if m then evMap (-1) else evArr (-1)) (by cases m; exact Or.inr (Or.inr (Or.inr (Or.inr (Or.inr (Or.inl ⟨-1, by omega, rfl⟩))))); exact Or.inr (Or.inr (Or.inr (Or.inr (Or.inr (Or.inr (Or.inl ⟨-1, by omega, rfl⟩))))))) (by cases m <;> decide) w w4 w2.heap.size w2.heap.size _ _ H4.out (fit_new (by omega)) (by omega) (Nat.le_refl _) (by omega) K4.out
    rw [show (if m then evMap (-1) else evArr (-1)).part = .iface 45 (.agg #[.bool m, .int .i64 (-1)]) by cases m <;> rfl, HSTEP2.out] at hst
    refine hst.mono ?_
    clear hst
    rintro r w5 ⟨v5, hv5, ov5, rfl, hown5, h5, k5, _b5, z5⟩
    obtain ⟨a5, c5, rfl⟩ := hown5.shape
    have H5 := Lib.hid h5
    have K5 := Lib.hid k5
    clear hown5 h5 k5 _b5
    simp only [List.length_nil]
    go_wp2_with fail
    refine (held_any _ _ _ _ _ _ H5.out).mono ?_
    rintro r w6 ⟨rfl, rfl⟩
    simp only [stBad]
    go_wp2_with fail
    go_ret
    exact ⟨rfl, K5.out⟩

theorem stageNone_walk (e : Ev) (m : Bool) (w : World) (he : e.Fit) :
    Calls Try.prog 7 #[e.val, .bool m] w fun r w' => r = .returned (.bool true) ∧ Below w.heap.size w w' := by
  refine Calls.mono (R := fun r w' => r = .returned (.bool true) ∧ Keeps [] w w') ?_ (fun r w' h => ⟨h.1, h.2.all⟩)
  by_cases h7 : e.kind = 7
  · exact stageNone_long e m w he.2.2.1 (Or.inl h7)
  by_cases ht : 300 < e.text.size
  · exact stageNone_long e m w he.2.2.1 (Or.inr ⟨h7, ht⟩)
  have h7' : (e.kind == 7) = false := by simpa using h7
  cases hti : tidy e with
  | none => exact stageNone_no e m w h7' (by omega) hti
  | some p =>
    by_cases h5 : e.kind = 5
    · by_cases hc : e.count < 0
      · exact stageNone_loose e p m w h7' (by omega) hti (Or.inl (by simpa using h5)) hc
      · exact stageNone_tight e p m w h7' (by omega) hti (Or.inl ⟨by simpa using h5, hc⟩)
    · by_cases h6 : e.kind = 6
      · by_cases hc : e.count < 0
        · exact stageNone_loose e p m w h7' (by omega) hti (Or.inr ⟨by simpa using h5, by simpa using h6⟩) hc
        · exact stageNone_tight e p m w h7' (by omega) hti (Or.inr (Or.inl ⟨by simpa using h5, by simpa using h6, hc⟩))
      · exact stageNone_tight e p m w h7' (by omega) hti (Or.inr (Or.inr ⟨by simpa using h5, by simpa using h6⟩))
end Go.Proofs.Ytefdemebmibonaa
