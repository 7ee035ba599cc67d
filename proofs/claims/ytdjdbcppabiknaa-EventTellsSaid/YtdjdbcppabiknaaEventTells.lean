/-
  EventTells' walk.
-/
import Derived.Test.YtdjdbcppabiknaaEvAlive
import Derived.Test.YtdjdbcppabiknaaTells
import Derived.Test.YtdjdbcppabiknaaEventSame
import Derived.Deep.RegionHeld
namespace Go.Proofs.Ytdjdbcppabiknaa
open Go.RowKit Go.Tru

theorem ev_facts {w : World} {b : Nat} {e : Ev} {t : TypeId} (h : Has w b e.cells t) :
    w.cell? ⟨b, 0, none⟩ = some (.int .i64 e.kind) ∧ w.cell? ⟨b, 1, none⟩ = some (.bool e.yes) ∧ w.cell? ⟨b, 2, none⟩ = some (.int .u64 e.mag) ∧ w.cell? ⟨b, 3, none⟩ = some (.string e.text) ∧ w.cell? ⟨b, 4, none⟩ = some (.int .i64 e.count) :=
  ⟨h.cell 0, h.cell 1, h.cell 2, h.cell 3, h.cell 4⟩

set_option maxHeartbeats 800000 in
theorem refTidy_yes (e p : Ev) (w : World) (h : tidy e = some p) :
    Calls Try.prog 17 #[e.val] w fun r w' => r = .returned p.val ∧ Keeps [] w w' := by
  obtain ⟨k, y, m, t, c⟩ := e
  simp only [Ev.val, Ev.cells]
  unfold tidy at h
  simp only [] at h
  rcases (show k = 0 ∨ k = 1 ∨ k = 2 ∨ k = 3 ∨ k = 4 ∨ (k = 5 ∧ ¬ c < -1) ∨ (k = 6 ∧ ¬ c < -1) ∨ k = 7 by
    by_cases h0 : k = 0; · exact Or.inl h0
    by_cases h1 : k = 1; · exact Or.inr (Or.inl h1)
    by_cases h2 : k = 2; · exact Or.inr (Or.inr (Or.inl h2))
    by_cases h3 : k = 3; · exact Or.inr (Or.inr (Or.inr (Or.inl h3)))
    by_cases h4 : k = 4; · exact Or.inr (Or.inr (Or.inr (Or.inr (Or.inl h4))))
    by_cases h7 : k = 7; · omega
    by_cases h5 : k = 5
    · simp [h5] at h; omega
    by_cases h6 : k = 6
    · simp [h6] at h; omega
    simp [h0, h1, h2, h3, h4, h5, h6, h7] at h) with rfl | rfl | rfl | rfl | rfl | ⟨rfl, hc⟩ | ⟨rfl, hc⟩ | rfl
  all_goals
    simp at h
    first | (obtain ⟨h, rfl⟩ := h) | (subst h)
    go_enter Try.func17, Try.ntmps17
    go_wp2
    refine bodyPost_ret (v := Ev.val _) (by simp [results, Try.results17, go_sem]; first | done | rfl | simp [Ev.val, Ev.cells, evNull, evBool, evInt, evText, evBytes, evArr, evMap, evEnd, noText]) rfl ⟨rfl, ?_⟩
    repeat first | exact Keeps.refl _ _ | apply Keeps.alloc | refine Keeps.setCell ?_ (Or.inr (by simp)) _

theorem clear_size {p : Ev} (h : Clear p) (h3 : p.kind ≠ 3) (h4 : p.kind ≠ 4) : p.size = 1 := by
  rcases h with rfl | ⟨b, rfl⟩ | ⟨n, m, rfl⟩ | ⟨s, rfl⟩ | ⟨s, rfl⟩ | ⟨n, hn, rfl⟩ | ⟨n, hn, rfl⟩ | rfl <;> first | rfl | (simp [evText, evBytes] at h3 h4)

theorem refSize_any (p : Ev) (hp : Clear p) (hs : p.text.size ≤ maxLen - 1) (w : World) :
    Calls Try.prog 20 #[p.val] w fun r w' => r = .returned (.int .i64 p.size) ∧ Keeps [] w w' := by
  unfold maxLen at hs
  have hz : ¬ (p.kind = 3 ∨ p.kind = 4) → p.size = 1 := fun h => clear_size hp (fun e => h (Or.inl e)) (fun e => h (Or.inr e))
  have HZ := Lib.hid hz
  clear hz hp
  obtain ⟨k, y, m, t, c⟩ := p
  simp only [Ev.val, Ev.cells] at *
  by_cases h3 : k = 3
  · subst h3
    go_enter Try.func20, Try.ntmps20
    go_wp2
    go_ret
    exact ⟨ret_int (by simp [Ev.size]), (Keeps.refl _ _).alloc _⟩
  by_cases h4 : k = 4
  · subst h4
    go_enter Try.func20, Try.ntmps20
    go_wp2
    go_ret
    exact ⟨ret_int (by simp [Ev.size]), (Keeps.refl _ _).alloc _⟩
  have hk3 : (k == 3) = false := by simpa using h3
  have hk4 : (k == 4) = false := by simpa using h4
  have H34 := Lib.hid (show ¬ (k = 3 ∨ k = 4) by omega)
  clear h3 h4
  go_enter Try.func20, Try.ntmps20
  go_wp2
  go_ret
  exact ⟨ret_int (HZ.out H34.out).symm, (Keeps.refl _ _).alloc _⟩

theorem neq_ev (a : Ev) (w : World) : (binOp .neq 32 a.val a.val).run Try.prog w = .ok (.bool false) w := by
  obtain ⟨k, y, m, t, c⟩ := a
  simp only [Ev.val, Ev.cells]
  go_simp

theorem tidy_text {e p : Ev} (h : tidy e = some p) : p.text.size ≤ e.text.size := by
  have hc := tidy_clear h
  have hk := tidy_kind h
  unfold tidy at h
  by_cases h3 : e.kind = 3
  · simp [h3] at h; subst h; exact Nat.le_refl _
  by_cases h4 : e.kind = 4
  · simp [h4] at h; subst h; exact Nat.le_refl _
  have := clear_size hc (by rw [hk]; exact h3) (by rw [hk]; exact h4)
  unfold Ev.size at this
  omega

theorem may_of {e : Ev} {p : Ev} (h : tidy e = some p) : e.may = true := by unfold Ev.may; rw [h]; rfl
theorem may_no {e : Ev} (h : tidy e = none) : e.may = false := by unfold Ev.may; rw [h]; rfl

theorem eventTells_long (a b : Ev) (w : World) (ha : a.text.size ≤ maxLen) (hb : b.text.size ≤ maxLen) (h : 300 < a.text.size ∨ a.text.size ≤ 300 ∧ 300 < b.text.size) :
    Calls Try.prog 7 #[a.val, b.val] w fun e w' => e = .returned (.bool true) ∧ Keeps [] w w' := by
  unfold maxLen at ha hb
  simp only [Ev.val, Ev.cells]
  rcases h with h | ⟨h, h'⟩
  all_goals
    go_enter Try.func7, Try.ntmps7
    go_wp2_with fail
    refine (alive_any _).mono ?_
    rintro e w1 ⟨rfl, k1⟩
    have K1 := Lib.hid k1
    clear k1
    go_wp2_with fail
    go_ret
    exact ⟨rfl, (((Keeps.refl _ _).alloc _).alloc _).trans K1.out⟩

set_option maxHeartbeats 800000 in
theorem eventTells_no (a b : Ev) (w : World) (ha : a.text.size ≤ 300) (hb : b.text.size ≤ 300) (h : tidy a = none ∨ tidy b = none) :
    Calls Try.prog 7 #[a.val, b.val] w fun e w' => e = .returned (.bool true) ∧ Keeps [] w w' := by
  have H := Lib.hid h
  clear h
  simp only [Ev.val, Ev.cells]
  go_enter Try.func7, Try.ntmps7
  go_wp2_with fail
  refine (alive_any _).mono ?_
  rintro e w1 ⟨rfl, k1⟩
  have HA := Lib.hid (((Has.new w a.cells 32).alloc (.cells b.cells.toArray 32)).keeps k1 (by simp))
  have HB := Lib.hid ((Has.new' (w.alloc (.cells a.cells.toArray 32)) b.cells.toArray 32 (n := w.heap.size + 1) (by simp)).keeps k1 (by simp))
  have K1 := Lib.hid ((((Keeps.refl [] w).alloc _).alloc _).trans k1)
  obtain ⟨a0, a1, a2, a3, a4⟩ := ev_facts HA.out
  obtain ⟨b0, b1, b2, b3, b4⟩ := ev_facts HB.out
  clear k1
  go_wp2_with fail
  cases hta : tidy a with
  | none =>
    have HTA := Lib.hid hta
    clear hta H
    refine (of_no a _ HTA.out).mono ?_
    rintro e w2 ⟨rfl, k2⟩
    obtain ⟨a0, a1, a2, a3, a4⟩ := ev_facts (HA.out.keeps k2 (by simp))
    obtain ⟨b0, b1, b2, b3, b4⟩ := ev_facts (HB.out.keeps k2 (by simp))
    have K2 := Lib.hid (K1.out.trans k2)
    have HA2 := Lib.hid (HA.out.keeps k2 (by simp))
    have HB2 := Lib.hid (HB.out.keeps k2 (by simp))
    clear k2 HA HB
    go_wp2_with fail
    cases htb : tidy b with
    | none =>
      have HTB := Lib.hid htb
      clear htb
      refine (of_no b _ HTB.out).mono ?_
      rintro e w3 ⟨rfl, k3⟩
      obtain ⟨a0, a1, a2, a3, a4⟩ := ev_facts (HA2.out.keeps k3 (by simp))
      obtain ⟨b0, b1, b2, b3, b4⟩ := ev_facts (HB2.out.keeps k3 (by simp))
      have HB3 := Lib.hid (HB2.out.keeps k3 (by simp))
      have K3 := Lib.hid (K2.out.trans k3)
      clear k3
      go_wp2_with fail
      refine (may_any a _).mono ?_
      rintro e w4 ⟨rfl, k4⟩
      rw [may_no HTA.out]
      obtain ⟨b0, b1, b2, b3, b4⟩ := ev_facts (HB3.out.keeps k4 (by simp))
      have K4 := Lib.hid (K3.out.trans k4)
      clear k4
      go_wp2_with fail
      refine (may_any b _).mono ?_
      rintro e w5 ⟨rfl, k5⟩
      rw [may_no HTB.out]
      have K5 := Lib.hid (K4.out.trans k5)
      clear k5
      go_wp2_with fail
      go_ret
      exact ⟨rfl, K5.out⟩
    | some q =>
      have HTB := Lib.hid htb
      clear htb
      refine (of_yes b q _ HTB.out).mono ?_
      rintro e w3 ⟨rfl, k3⟩
      obtain ⟨a0, a1, a2, a3, a4⟩ := ev_facts (HA2.out.keeps k3 (by simp))
      obtain ⟨b0, b1, b2, b3, b4⟩ := ev_facts (HB2.out.keeps k3 (by simp))
      have HB3 := Lib.hid (HB2.out.keeps k3 (by simp))
      have K3 := Lib.hid (K2.out.trans k3)
      clear k3
      generalize q.part = qv
      go_wp2_with fail
      refine (may_any a _).mono ?_
      rintro e w4 ⟨rfl, k4⟩
      rw [may_no HTA.out]
      obtain ⟨b0, b1, b2, b3, b4⟩ := ev_facts (HB3.out.keeps k4 (by simp))
      have K4 := Lib.hid (K3.out.trans k4)
      clear k4
      go_wp2_with fail
      refine (may_any b _).mono ?_
      rintro e w5 ⟨rfl, k5⟩
      rw [may_of HTB.out]
      have K5 := Lib.hid (K4.out.trans k5)
      clear k5
      go_wp2_with fail
      go_ret
      exact ⟨rfl, K5.out⟩
  | some p =>
    have htb : tidy b = none := by
      rcases H.out with h | h
      · rw [hta] at h; cases h
      · exact h
    have HTA := Lib.hid hta
    have HTB := Lib.hid htb
    clear hta htb H
    refine (of_yes a p _ HTA.out).mono ?_
    rintro e w2 ⟨rfl, k2⟩
    obtain ⟨a0, a1, a2, a3, a4⟩ := ev_facts (HA.out.keeps k2 (by simp))
    obtain ⟨b0, b1, b2, b3, b4⟩ := ev_facts (HB.out.keeps k2 (by simp))
    have K2 := Lib.hid (K1.out.trans k2)
    have HA2 := Lib.hid (HA.out.keeps k2 (by simp))
    have HB2 := Lib.hid (HB.out.keeps k2 (by simp))
    clear k2 HA HB
    generalize p.part = pv
    go_wp2_with fail
    refine (of_no b _ HTB.out).mono ?_
    rintro e w3 ⟨rfl, k3⟩
    obtain ⟨a0, a1, a2, a3, a4⟩ := ev_facts (HA2.out.keeps k3 (by simp))
    obtain ⟨b0, b1, b2, b3, b4⟩ := ev_facts (HB2.out.keeps k3 (by simp))
    have HB3 := Lib.hid (HB2.out.keeps k3 (by simp))
    have K3 := Lib.hid (K2.out.trans k3)
    clear k3
    go_wp2_with fail
    refine (may_any a _).mono ?_
    rintro e w4 ⟨rfl, k4⟩
    rw [may_of HTA.out]
    obtain ⟨b0, b1, b2, b3, b4⟩ := ev_facts (HB3.out.keeps k4 (by simp))
    have K4 := Lib.hid (K3.out.trans k4)
    clear k4
    go_wp2_with fail
    refine (may_any b _).mono ?_
    rintro e w5 ⟨rfl, k5⟩
    rw [may_no HTB.out]
    have K5 := Lib.hid (K4.out.trans k5)
    clear k5
    go_wp2_with fail
    go_ret
    exact ⟨rfl, K5.out⟩
end Go.Proofs.Ytdjdbcppabiknaa
