/-
  packin's isText, isContainer, Parser.long: their contracts.
-/
import Derived.Test.YtmcbdkhlbmhfeaaPack
namespace Go.Proofs.Ytmcbdkhlbmhfeaa
open Go.RowKit Go.Tru

theorem isText_any (x : Int) (hx0 : 0 ≤ x) (hx1 : x ≤ 255) (w : World) :
    Calls Try.prog 48 #[.int .u8 x] w fun r w' => r = .returned (.bool (isTextB x)) ∧ w = w' := by
  rcases (show (x / 32 == 5) = true ∧ isTextB x = true ∨ (x / 32 == 5) = false ∧ ¬ 217 ≤ x ∧ isTextB x = false ∨ (x / 32 == 5) = false ∧ 217 ≤ x ∧ x ≤ 219 ∧ isTextB x = true ∨ (x / 32 == 5) = false ∧ 217 ≤ x ∧ ¬ x ≤ 219 ∧ isTextB x = false by
    unfold isTextB
    simp only [beq_iff_eq, beq_eq_false_iff_ne, ne_eq, decide_eq_true_eq, decide_eq_false_iff_not]
    omega) with ⟨h1, h2⟩ | ⟨h1, h3, h2⟩ | ⟨h1, h3, h4, h2⟩ | ⟨h1, h3, h4, h2⟩
  all_goals
    rw [h2]
    clear h2
    go_enter Try.func48, Try.ntmps48
    go_wp2
    go_ret
    exact ⟨rfl, rfl⟩

theorem isCont_any (x : Int) (hx0 : 0 ≤ x) (hx1 : x ≤ 255) (w : World) :
    Calls Try.prog 49 #[.int .u8 x] w fun r w' => r = .returned (.bool (isContB x)) ∧ w = w' := by
  rcases (show (¬ 128 ≤ x ∧ isContB x = false) ∨ (128 ≤ x ∧ x ≤ 159 ∧ isContB x = true) ∨ (128 ≤ x ∧ ¬ x ≤ 159 ∧ ¬ 220 ≤ x ∧ isContB x = false) ∨ (128 ≤ x ∧ ¬ x ≤ 159 ∧ 220 ≤ x ∧ x ≤ 223 ∧ isContB x = true) ∨ (128 ≤ x ∧ ¬ x ≤ 159 ∧ 220 ≤ x ∧ ¬ x ≤ 223 ∧ isContB x = false) by
    unfold isContB
    simp only [decide_eq_true_eq, decide_eq_false_iff_not]
    omega) with ⟨h1, h2⟩ | ⟨h1, h3, h2⟩ | ⟨h1, h3, h4, h2⟩ | ⟨h1, h3, h4, h5, h2⟩ | ⟨h1, h3, h4, h5, h2⟩
  all_goals
    rw [h2]
    clear h2
    go_enter Try.func49, Try.ntmps49
    go_wp2
    go_ret
    exact ⟨rfl, rfl⟩

theorem long_any {w : World} {base b : Nat} {ov sv : Value} {p : Pk} (h : PkIn w base b ov sv p) (x : Int) (hx : 196 ≤ x ∧ x ≤ 198 ∨ 204 ≤ x ∧ x ≤ 211 ∨ 217 ≤ x ∧ x ≤ 223) :
    Calls Try.prog 51 #[.pointer (some ⟨b, 0, none⟩), .int .u8 x] w (PkGives w base b ov sv (p.long x)) := by
  obtain ⟨res, hres⟩ : ∃ res, p.long x = res := ⟨_, rfl⟩
  rw [hres]
  have HR := Lib.hid hres
  have HF := Lib.hid (fun kind n => follows_any h kind n)
  clear h hres
  rcases (show x = 196 ∨ x = 197 ∨ x = 198 ∨ x = 204 ∨ x = 205 ∨ x = 206 ∨ x = 207 ∨ x = 208 ∨ x = 209 ∨ x = 210 ∨ x = 211 ∨ x = 217 ∨ x = 218 ∨ x = 219 ∨ x = 220 ∨ x = 221 ∨ x = 222 ∨ x = 223 by omega) with
    rfl | rfl | rfl | rfl | rfl | rfl | rfl | rfl | rfl | rfl | rfl | rfl | rfl | rfl | rfl | rfl | rfl | rfl
  all_goals
    clear hx
    go_enter Try.func51, Try.ntmps51
    go_wp2_with fail
    refine (HF.out _ _).mono ?_
    rintro e w2 ⟨v, rfl, hown, hpost⟩
    obtain ⟨av, cv, rfl⟩ := hown.shape
    have HOWN := Lib.hid hown
    have HPOST := Lib.hid hpost
    clear hown hpost
    go_wp2_with fail
    go_ret
    rw [← HR.out]
    exact ⟨_, rfl, HOWN.out, HPOST.out⟩
end Go.Proofs.Ytmcbdkhlbmhfeaa
