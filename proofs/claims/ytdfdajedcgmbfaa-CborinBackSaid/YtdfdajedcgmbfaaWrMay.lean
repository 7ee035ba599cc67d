/-
  truchmanref1.May: a part that may be.
-/
import Derived.Test.YtdfdajedcgmbfaaEvMore
namespace Go.Proofs.Ytdfdajedcgmbfaa
open Go.RowKit Go.Tru

theorem may_yes (e : Ev) (h : (0 ≤ e.kind ∧ e.kind ≤ 7 ∧ e.kind ≠ 5 ∧ e.kind ≠ 6) ∨ ((e.kind = 5 ∨ e.kind = 6) ∧ -1 ≤ e.count)) (w : World) : Calls Try.prog 14 #[e.val] w fun r w' => r = .returned (.bool true) ∧ Keeps [] w w' := by
  obtain ⟨k, y, m, t, c⟩ := e
  simp only [Ev.val, Ev.cells] at *
  rcases h with ⟨h0, h7, h5, h6⟩ | ⟨rfl | rfl, h⟩
  · have h5' : (k != 5) = true := by simpa using h5
    have h6' : (k != 6) = true := by simpa using h6
    go_enter Try.func14, Try.ntmps14
    go_wp2_with fail
    go_ret
    exact ⟨rfl, (Keeps.refl _ _).alloc _⟩
  all_goals
    go_enter Try.func14, Try.ntmps14
    go_wp2_with fail
    go_ret
    exact ⟨rfl, (Keeps.refl _ _).alloc _⟩
end Go.Proofs.Ytdfdajedcgmbfaa
