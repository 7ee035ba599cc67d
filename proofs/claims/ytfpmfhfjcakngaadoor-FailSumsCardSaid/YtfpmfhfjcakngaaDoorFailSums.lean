/-
  FailSums' walk.
-/
import Derived.Test.YtfpmfhfjcakngaaDoorFailAlive
namespace Go.Proofs.YtfpmfhfjcakngaaDoor
open Go.RowKit Go.Tru

set_option maxHeartbeats 2000000 in
set_option maxRecDepth 100000 in
theorem sums_case (a b x z : Int) (ok on : Bool) (hab : ok = true → x = a + b ∧ 0 ≤ a ∧ 0 ≤ b ∧ on = true) (hno : ok = false → x = 0) (hon : on = decide (0 ≤ a)) (hz : on = true → z = a) (w : World)
    (h1 : ∀ W, Calls Tryd.prog 9 #[.int .i64 a, .int .i64 b] W fun e w' => e = .returned (.tuple #[.int .i64 x, .bool ok]) ∧ w' = W)
    (h2 : ∀ W, Calls Tryd.prog 9 #[.int .i64 b, .int .i64 a] W fun e w' => e = .returned (.tuple #[.int .i64 x, .bool ok]) ∧ w' = W)
    (h3 : ∀ W, Calls Tryd.prog 9 #[.int .i64 a, .int .i64 0] W fun e w' => e = .returned (.tuple #[.int .i64 z, .bool on]) ∧ w' = W)
    (htab : PowTab w) :
    Calls Tryd.prog 3 #[.int .i64 a, .int .i64 b] w fun e w' => e = .returned (.bool true) ∧ Below w.heap.size w w' := by
  have HT := Lib.hid htab
  have H1 := Lib.hid h1
  have H2 := Lib.hid h2
  have H3 := Lib.hid h3
  clear htab h1 h2 h3
  cases ok
  · obtain rfl := hno rfl
    clear hab hno
    cases on
    · have ha : ¬ 0 ≤ a := by intro h; simp [h] at hon
      clear hon hz
      go_enter Tryd.func3, Tryd.ntmps3
      go_wp2_with fail
      refine (alive_any w HT.out).mono ?_
      rintro e w1 ⟨rfl, k1⟩
      have K1 := Lib.hid k1
      clear k1
      go_wp2_with fail
      refine (H1.out _).mono ?_
      rintro e w2 ⟨rfl, rfl⟩
      go_wp2_with fail
      refine (H2.out _).mono ?_
      rintro e w2 ⟨rfl, rfl⟩
      go_wp2_with fail
      refine (H3.out _).mono ?_
      rintro e w2 ⟨rfl, rfl⟩
      go_wp2_with fail
      all_goals go_tidy
      all_goals first | (exfalso; omega) | (go_ret; exact ⟨rfl, K1.out.all⟩) | (go_ret; exact ⟨ret_bool (a := !decide (0 ≤ a)) (by simp; omega), K1.out.all⟩)
    · have ha : 0 ≤ a := by
        by_cases h : 0 ≤ a
        · exact h
        · simp [h] at hon
      obtain rfl := hz rfl
      clear hon hz
      go_enter Tryd.func3, Tryd.ntmps3
      go_wp2_with fail
      refine (alive_any w HT.out).mono ?_
      rintro e w1 ⟨rfl, k1⟩
      have K1 := Lib.hid k1
      clear k1
      go_wp2_with fail
      refine (H1.out _).mono ?_
      rintro e w2 ⟨rfl, rfl⟩
      go_wp2_with fail
      refine (H2.out _).mono ?_
      rintro e w2 ⟨rfl, rfl⟩
      go_wp2_with fail
      refine (H3.out _).mono ?_
      rintro e w2 ⟨rfl, rfl⟩
      go_wp2_with fail
      all_goals go_tidy
      all_goals first | (exfalso; omega) | (go_ret; exact ⟨rfl, K1.out.all⟩)
  · obtain ⟨rfl, ha, hb, rfl⟩ := hab rfl
    obtain rfl := hz rfl
    clear hab hno hon hz
    go_enter Tryd.func3, Tryd.ntmps3
    go_wp2_with fail
    refine (alive_any w HT.out).mono ?_
    rintro e w1 ⟨rfl, k1⟩
    have K1 := Lib.hid k1
    clear k1
    go_wp2_with fail
    refine (H1.out _).mono ?_
    rintro e w2 ⟨rfl, rfl⟩
    go_wp2_with fail
    refine (H2.out _).mono ?_
    rintro e w2 ⟨rfl, rfl⟩
    go_wp2_with fail
    refine (H3.out _).mono ?_
    rintro e w2 ⟨rfl, rfl⟩
    go_wp2_with fail
    all_goals go_tidy
    all_goals first | (exfalso; omega) | (go_ret; exact ⟨rfl, K1.out.all⟩)

theorem failSums_walk (a b : Int) (w : World) (ha : -9223372036854775808 ≤ a ∧ a ≤ 9223372036854775807) (hb : -9223372036854775808 ≤ b ∧ b ≤ 9223372036854775807) (htab : PowTab w) :
    Calls Tryd.prog 3 #[.int .i64 a, .int .i64 b] w fun e w' => e = .returned (.bool true) ∧ Below w.heap.size w w' := by
  have hs : addOk b a = addOk a b := by
    simp only [addOk]
    congr 1
    rw [Int.add_comm b a]
    apply propext
    constructor <;> (rintro ⟨h1, h2, h3⟩; exact ⟨h2, h1, h3⟩)
  have h0 : addOk a 0 = decide (0 ≤ a) := by
    simp only [addOk]
    congr 1
    apply propext
    constructor
    · exact fun h => h.1
    · exact fun h => ⟨h, by omega, by omega⟩
  refine sums_case a b (if addOk a b then a + b else 0) (if addOk a 0 then a + 0 else 0) (addOk a b) (addOk a 0) ?_ ?_ h0 ?_ w (add_any a b ha hb) ?_ (add_any a 0 ha (by decide)) htab
  · intro h
    rw [if_pos h]
    simp only [addOk, decide_eq_true_eq] at h
    refine ⟨rfl, h.1, h.2.1, ?_⟩
    rw [h0]
    exact decide_eq_true h.1
  · intro h
    rw [if_neg (by rw [h]; exact Bool.false_ne_true)]
  · intro h
    rw [if_pos h]
    omega
  · have := add_any b a hb ha
    rw [hs, Int.add_comm b a] at this
    exact this
end Go.Proofs.YtfpmfhfjcakngaaDoor
