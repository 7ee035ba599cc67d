/-
  DecimalFloats: its walk, at every argument.
-/
import Derived.Test.YtfgnjaelfjabmaaDoorDecFloats
namespace Go.Proofs.YtfgnjaelfjabmaaDoor
open Go.RowKit Go.Tru

set_option maxRecDepth 100000 in
theorem floats_long (g : Bool) (m : Nat) (k : Int) (s : ByteArray) (w : World) (hs : 20 < (s.size : Int)) (htab : PowTab w) :
    Calls Tryd.prog 6 #[.agg #[.bool g, .int .u64 (m : Int)], .int .i64 k, .string s] w fun e w' => e = .returned (.bool true) ∧ Below w.heap.size w w' := by
  have HT := Lib.hid htab
  clear htab
  go_enter Tryd.func6, Tryd.ntmps6
  go_wp2_with fail
  refine (alive_any _ (Lib.tabIs_alloc HT.out _)).mono ?_
  rintro e w1 ⟨rfl, k1⟩
  have K1 := Lib.hid (((Keeps.refl [] w).alloc _).trans k1)
  clear k1
  go_wp2_with fail
  go_ret
  exact ⟨rfl, K1.out.all⟩

theorem decimalFloats_walk (g : Bool) (m : Nat) (k : Int) (s : ByteArray) (w : World) (hm : m < 18446744073709551616) (_ : -9223372036854775808 ≤ k ∧ k ≤ 9223372036854775807) (_ : s.size ≤ maxLen) (htab : PowTab w) :
    Calls Tryd.prog 6 #[.agg #[.bool g, .int .u64 (m : Int)], .int .i64 k, .string s] w fun e w' => e = .returned (.bool true) ∧ Below w.heap.size w w' := by
  by_cases hs : 20 < (s.size : Int)
  · exact floats_long g m k s w hs htab
  have h1 : -3 < k.tmod 3 ∧ k.tmod 3 < 3 := by
    have := Int.tmod_lt_of_pos k (show (0 : Int) < 3 by decide)
    have := Int.lt_tmod_of_pos k (show (0 : Int) < 3 by decide)
    omega
  have h2 : wrap64 (k.tmod 3 + 3) = k.tmod 3 + 3 := by simp [wrap64]; omega
  have h3 : (k.tmod 3 + 3).tmod 3 = (k.tmod 3 + 3) % 3 := Int.tmod_eq_emod_of_nonneg (by omega)
  have h4 : (k.tmod 3 + 3) % 3 = 0 ∨ (k.tmod 3 + 3) % 3 = 1 ∨ (k.tmod 3 + 3) % 3 = 2 := by omega
  rcases h4 with h4 | h4 | h4
  · exact floats_at 46 0 (Or.inl ⟨rfl, rfl⟩) g m k s w hm (by omega) (by rw [h2, h3, h4]; rfl) htab
  · exact floats_at 101 1 (Or.inr (Or.inl ⟨rfl, rfl⟩)) g m k s w hm (by omega) (by rw [h2, h3, h4]; rfl) htab
  · exact floats_at 69 2 (Or.inr (Or.inr ⟨rfl, rfl⟩)) g m k s w hm (by omega) (by rw [h2, h3, h4]; rfl) htab
end Go.Proofs.YtfgnjaelfjabmaaDoor
