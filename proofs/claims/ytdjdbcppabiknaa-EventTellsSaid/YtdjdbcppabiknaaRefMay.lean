/-
  truchmanref1.May: its contract; the book's boxes.
-/
import Derived.Test.YtdjdbcppabiknaaWrapPlain
import Derived.Test.YtdjdbcppabiknaaEvMore
namespace Go.Tru

/-- is a part one that may be -/
def Ev.may (e : Ev) : Bool := (tidy e).isSome

theorem may_iff (e : Ev) : e.may = true ↔ (0 ≤ e.kind ∧ e.kind ≤ 7 ∧ ((e.kind ≠ 5 ∧ e.kind ≠ 6) ∨ -1 ≤ e.count)) := by
  unfold Ev.may tidy
  by_cases h0 : e.kind = 0
  · simp [h0]
  by_cases h1 : e.kind = 1
  · simp [h1]
  by_cases h2 : e.kind = 2
  · simp [h2]
  by_cases h3 : e.kind = 3
  · simp [h3]
  by_cases h4 : e.kind = 4
  · simp [h4]
  by_cases h5 : e.kind = 5
  · by_cases hc : e.count < -1
    · simp [h5, hc]
    · simp [h5, hc]; omega
  by_cases h6 : e.kind = 6
  · by_cases hc : e.count < -1
    · simp [h6, hc]
    · simp [h6, hc]; omega
  by_cases h7 : e.kind = 7
  · simp [h7]
  simp [h0, h1, h2, h3, h4, h5, h6, h7]
  omega

theorem tidy_cont {e p : Ev} (h : tidy e = some p) (ho : isOpen p = true) : Cont.of p = ⟨e.kind == 6, e.count, 0⟩ := by
  have hk := tidy_kind h
  simp only [isOpen, decide_eq_true_eq] at ho
  rw [hk] at ho
  unfold tidy at h
  rcases ho with h5 | h6
  · by_cases hc : e.count < -1
    · simp [h5, hc] at h
    · simp [h5, hc] at h
      subst h
      simp [Cont.of, evArr, h5]
  · by_cases hc : e.count < -1
    · simp [h6, hc] at h
    · simp [h6, hc] at h
      subst h
      simp [Cont.of, evMap, h6]
end Go.Tru
namespace Go.Proofs.Ytdjdbcppabiknaa
open Go.RowKit Go.Tru

theorem may_any (e : Ev) (w : World) : Calls Try.prog 15 #[e.val] w fun r w' => r = .returned (.bool e.may) ∧ Keeps [] w w' := by
  have hm := may_iff e
  generalize e.may = R at hm ⊢
  obtain ⟨k, y, m, t, c⟩ := e
  simp only [Ev.val, Ev.cells] at *
  have hcase : R = false ∧ k < 0 ∨ R = false ∧ 0 ≤ k ∧ 7 < k ∨ (k = 5 ∧ R = decide (-1 ≤ c)) ∨ (k = 6 ∧ R = decide (-1 ≤ c)) ∨ (0 ≤ k ∧ k ≤ 7 ∧ (k != 5) = true ∧ (k != 6) = true ∧ R = true) := by
    by_cases h1 : k < 0
    · refine Or.inl ⟨?_, h1⟩
      rw [Bool.eq_false_iff]; intro h; have := hm.1 h; omega
    · by_cases h2 : 7 < k
      · refine Or.inr (Or.inl ⟨?_, by omega, h2⟩)
        rw [Bool.eq_false_iff]; intro h; have := hm.1 h; omega
      · by_cases h5 : k = 5
        · refine Or.inr (Or.inr (Or.inl ⟨h5, ?_⟩))
          rw [Bool.eq_iff_iff, hm]; simp; omega
        · by_cases h6 : k = 6
          · refine Or.inr (Or.inr (Or.inr (Or.inl ⟨h6, ?_⟩)))
            rw [Bool.eq_iff_iff, hm]; simp; omega
          · refine Or.inr (Or.inr (Or.inr (Or.inr ⟨by omega, by omega, by simpa using h5, by simpa using h6, ?_⟩)))
            rw [hm]; omega
  clear hm
  rcases hcase with ⟨rfl, h⟩ | ⟨rfl, h, h'⟩ | ⟨rfl, rfl⟩ | ⟨rfl, rfl⟩ | ⟨h, h', h5, h6, rfl⟩
  all_goals
    go_enter Try.func15, Try.ntmps15
    go_wp2_with fail
    go_ret
    exact ⟨rfl, (Keeps.refl _ _).alloc _⟩
end Go.Proofs.Ytdjdbcppabiknaa
