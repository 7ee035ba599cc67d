/-
  decimal.Print; the law's alive.
-/
import Derived.Test.YtfgnjaelfjabmaaDoorDecFmt
import Derived.Test.YtfgnjaelfjabmaaDoorDecParse
namespace Go.Proofs.YtfgnjaelfjabmaaDoor
open Go.RowKit Go.Tru

theorem dec_top : Lib.decDigits 18446744073709551616 = [49, 56, 52, 52, 54, 55, 52, 52, 48, 55, 51, 55, 48, 57, 53, 53, 49, 54, 49, 54] := by
  have h := canon_dec 20 [49, 56, 52, 52, 54, 55, 52, 52, 48, 55, 51, 55, 48, 57, 53, 53, 49, 54, 49, 54] rfl ⟨by unfold allDig; decide, by simp, by decide⟩
  exact h

theorem dec_size (u : Nat) (hu : u < 18446744073709551616) : (Lib.decDigits u).length ≤ 20 := by
  by_cases h0 : u = 0
  · subst h0; rw [Lib.decDigits_one (by omega)]; simp
  · rw [Lib.decDigits_length]
    have := Lib.numDigits_eq u (by omega) hu
    split at this <;> omega

set_option maxHeartbeats 1000000 in
set_option maxRecDepth 100000 in
theorem print_any (neg : Bool) (m : Nat) (hm : m < 18446744073709551616) (w : World) (htab : PowTab w) :
    Calls Tryd.prog 11 #[.agg #[.bool neg, .int .u64 m]] w fun e w' => e = .returned (.string ⟨(printW neg m).toArray⟩) ∧ Keeps [] w w' := by
  cases neg with
  | false =>
    have hcall := fun W h => fmt_uint m hm W h
    go_enter Tryd.func11, Tryd.ntmps11
    go_wp2_with (go_at_call 14; refine (hcall _ (Lib.tabIs_alloc htab _)).mono ?_; rintro e w' ⟨rfl, k1⟩; have K1 := Lib.hid k1; clear k1)
    go_ret
    exact ⟨rfl, ((Keeps.refl _ _).alloc _).trans K1.out⟩
  | true =>
    by_cases ht : m = 18446744073709551615
    · subst ht
      go_enter Tryd.func11, Tryd.ntmps11
      go_wp2
      go_ret
      refine ⟨?_, (Keeps.refl _ _).alloc _⟩
      simp only [printW, if_true]
      rw [dec_top]
      rfl
    · have hne : ((m : Int) == 18446744073709551615) = false := by rw [beq_eq_false_iff_ne]; omega
      have hwr : IntKind.u64.wrap ((m : Int) + 1) = ((m + 1 : Nat) : Int) := by rw [IntKind.wrap_u64]; omega
      have hcall := fun W h => fmt_uint (m + 1) (by omega) W h
      have hl := dec_size (m + 1) (by omega)
      have hsz : (⟨(Lib.decDigits (m + 1)).toArray⟩ : ByteArray).size = (Lib.decDigits (m + 1)).length := by simp [ByteArray.size]
      have hsum : ¬ 281474976710656 < (⟨#[45]⟩ : ByteArray).size + (⟨(Lib.decDigits (m + 1)).toArray⟩ : ByteArray).size := by rw [hsz]; show ¬ 281474976710656 < 1 + _; omega
      have HS := Lib.hid hsum
      clear hl ht hm
      go_enter Tryd.func11, Tryd.ntmps11
      go_wp2_with (go_at_call 14; refine (hcall _ (Lib.tabIs_alloc htab _)).mono ?_; rintro e w' ⟨rfl, k1⟩; have K1 := Lib.hid k1; clear k1)
      go_ret
      refine ⟨?_, ((Keeps.refl _ _).alloc _).trans K1.out⟩
      have e : (⟨#[45]⟩ : ByteArray) ++ ⟨(Lib.decDigits (m + 1)).toArray⟩ = ⟨(printW true m).toArray⟩ := by
        apply ByteArray.ext
        simp [printW, ByteArray.data_append]
      rw [← e]
      rfl
end Go.Proofs.YtfgnjaelfjabmaaDoor
