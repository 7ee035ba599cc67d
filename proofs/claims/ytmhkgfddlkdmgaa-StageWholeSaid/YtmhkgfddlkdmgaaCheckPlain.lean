/-
  Documents and their beginnings, plainly.
-/
import Derived.Test.YtmhkgfddlkdmgaaCheck
namespace Go.Tru

theorem ckRun_done {s : List Cont} {es : List Ev} {s' : List Cont} {d' : Bool} (h : ckRun s true es = .ok (s', d')) : es = [] := by
  cases es with
  | nil => rfl
  | cons e es =>
    simp only [ckRun, ckStep] at h
    cases ht : tidy e <;> simp [ht] at h

/-- what a whole document comes to -/
theorem check_ok {es : List Ev} (h : check es = 0) : ∃ s, ckRun [] false es = .ok (s, true) := by
  unfold check at h
  cases hr : ckRun [] false es with
  | error x =>
    rw [hr] at h
    simp only [] at h
    subst h
    -- no error is 0
    exfalso
    have key : ∀ (es : List Ev) (s : List Cont) (d : Bool), ckRun s d es ≠ .error 0 := by
      intro es
      induction es with
      | nil => intro s d h; cases h
      | cons e es ih =>
        intro s d h
        simp only [ckRun] at h
        have hst : ckStep s d e ≠ .error 0 := by
          unfold ckStep
          repeat' split
          all_goals simp
        cases hs : ckStep s d e with
        | error x => rw [hs] at h; simp only [Except.error.injEq] at h; exact hst (by rw [hs, h])
        | ok y => rw [hs] at h; exact ih _ _ h
    exact key _ _ _ hr
  | ok y =>
    rw [hr] at h
    obtain ⟨s, d⟩ := y
    cases d
    · simp at h
    · exact ⟨s, rfl⟩

/-- a beginning of a document is not at its end -/
theorem check_take {es : List Ev} (h : check es = 0) {j : Nat} (hj : j < es.length) : check (es.take j) = 3 := by
  obtain ⟨s, hs⟩ := check_ok h
  rw [← List.take_append_drop j es, ckRun_append] at hs
  cases hr : ckRun [] false (es.take j) with
  | error x => rw [hr] at hs; cases hs
  | ok y =>
    rw [hr] at hs
    obtain ⟨s', d'⟩ := y
    cases d'
    · unfold check; rw [hr]; rfl
    · have := ckRun_done hs
      have hl := congrArg List.length this
      rw [List.length_drop, List.length_nil] at hl
      omega
end Go.Tru
