/-
  Small facts on numbers that the walks ask.
-/
import Derived.Test.YtbeocehadnhmnaaTru
namespace Go.Tru

/-- (a % z + z) % z as Go reckons it: a number from 0 to z less 1 -/
theorem mod_facts (a : Int) {z : Nat} (h : 0 < z) : -(z : Int) < a.tmod z ∧ a.tmod z < z ∧ ∃ j : Nat, a.tmod z % z = j ∧ j < z := by
  refine ⟨by have := Int.lt_tmod_of_pos a (b := (z : Int)) (by omega); omega, Int.tmod_lt_of_pos a (by omega), (a.tmod z % z).toNat, ?_, ?_⟩
  · have := Int.emod_nonneg (a.tmod z) (b := (z : Int)) (by omega); omega
  · have := Int.emod_nonneg (a.tmod z) (b := (z : Int)) (by omega); have := Int.emod_lt_of_pos (a.tmod z) (b := (z : Int)) (by omega); omega
end Go.Tru
