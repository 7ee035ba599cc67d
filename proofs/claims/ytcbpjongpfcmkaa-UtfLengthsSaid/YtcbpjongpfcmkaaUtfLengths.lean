/-
  UtfLengths' walk.
-/
import Derived.Test.YtcbpjongpfcmkaaUtfAlive
import Derived.Test.YtcbpjongpfcmkaaUtfOrder
namespace Go.Proofs.Ytcbpjongpfcmkaa
open Go.RowKit Go.Tru

theorem notRune {r : Int} (h : ¬ isRune r) : r < 0 ∨ 1114111 < r ∨ 55296 ≤ r ∧ r ≤ 57343 := by unfold isRune at h; omega

def lenTo (r : Int) (k : Nat) : Int := 1 + (if 1 ≤ k ∧ 128 ≤ r then 1 else 0) + (if 2 ≤ k ∧ 2048 ≤ r then 1 else 0) + (if 3 ≤ k ∧ 65536 ≤ r then 1 else 0)

theorem lenTo_1 (a : Int) : (128 ≤ a → lenTo a 1 = lenTo a 0 + 1) ∧ (a < 128 → lenTo a 1 = lenTo a 0) := by
  unfold lenTo; constructor <;> intro h <;> simp <;> omega
theorem lenTo_2 (a : Int) : (2048 ≤ a → lenTo a 2 = lenTo a 1 + 1) ∧ (a < 2048 → lenTo a 2 = lenTo a 1) := by
  unfold lenTo; constructor <;> intro h <;> simp <;> omega
theorem lenTo_3 (a : Int) : (65536 ≤ a → lenTo a 3 = lenTo a 2 + 1) ∧ (a < 65536 → lenTo a 3 = lenTo a 2) := by
  unfold lenTo; constructor <;> intro h <;> simp <;> omega
theorem lenTo_zero (r : Int) : lenTo r 0 = 1 := by unfold lenTo; simp

set_option maxHeartbeats 400000 in
set_option maxRecDepth 100000 in
theorem utfLengths_walk (a b : Int) (w : World) (_ha : -9223372036854775808 ≤ a ∧ a ≤ 9223372036854775807) (_hb : -9223372036854775808 ≤ b ∧ b ≤ 9223372036854775807) :
    Calls Try.prog 4 #[.int .i64 a, .int .i64 b] w fun e w' => e = .returned (.bool true) ∧ Below w.heap.size w w' := by
  by_cases ha : isRune a
  · by_cases hb : isRune b
    · have HA := Lib.hid ha
      have HB := Lib.hid hb
      unfold isRune at ha
      have ha0 : 0 ≤ a := by omega
      have ha1 : a ≤ 1114111 := by omega
      clear ha hb _ha _hb
      go_enter Try.func4, Try.ntmps4
      go_wp2_with fail
      refine (put_yes a _ HA.out).mono ?_
      rintro e w1 ⟨rfl, rfl⟩
      go_wp2_with fail
      refine (put_yes b _ HB.out).mono ?_
      rintro e w1 ⟨rfl, rfl⟩
      go_wp2_with fail
      refine (alive_any w).mono ?_
      rintro e w1 ⟨rfl, k1⟩
      have K1 := Lib.hid k1
      clear k1
      go_wp2_with fail
      go_loop [9, 35] (fun n i => ∃ k : Nat, k ≤ 3 ∧ i = .int .i64 k ∧ n = .int .i64 (lenTo a k)) (fun _ i => 3 - (intOf i).toNat)
      case atStart => exact ⟨0, by omega, rfl, by rw [lenTo_zero]⟩
      case round =>
        obtain ⟨k, hk, rfl, rfl⟩ := hrel
        have hn1 : 1 ≤ lenTo a k := by unfold lenTo; repeat' (first | omega | split)
        have hn2 : lenTo a k ≤ 4 := by unfold lenTo; repeat' (first | omega | split)
        have hs0 : (128 ≤ a → lenTo a 1 = lenTo a 0 + 1) ∧ (a < 128 → lenTo a 1 = lenTo a 0) := lenTo_1 a
        have hs1 : (2048 ≤ a → lenTo a 2 = lenTo a 1 + 1) ∧ (a < 2048 → lenTo a 2 = lenTo a 1) := lenTo_2 a
        have hs2 : (65536 ≤ a → lenTo a 3 = lenTo a 2 + 1) ∧ (a < 65536 → lenTo a 3 = lenTo a 2) := lenTo_3 a
        have S0 := Lib.hid hs0
        have S1 := Lib.hid hs1
        have S2 := Lib.hid hs2
        clear hs0 hs1 hs2
        rcases (show k = 0 ∨ k = 1 ∨ k = 2 ∨ k = 3 by omega) with rfl | rfl | rfl | rfl
        · go_wp2
          all_goals
            go_round
            case rel => exact ⟨1, by omega, by go_num, by first | rw [S0.out.1 (by omega)] | rw [S0.out.2 (by omega)]⟩
            case measure => simp [intOf]
        · go_wp2
          all_goals
            go_round
            case rel => exact ⟨2, by omega, by go_num, by first | rw [S1.out.1 (by omega)] | rw [S1.out.2 (by omega)]⟩
            case measure => simp [intOf]
        · go_wp2
          all_goals
            go_round
            case rel => exact ⟨3, by omega, by go_num, by first | rw [S2.out.1 (by omega)] | rw [S2.out.2 (by omega)]⟩
            case measure => simp [intOf]
        · have hl : lenTo a 3 = lenOf a := by unfold lenTo lenOf; simp
          rw [hl]
          have hsz : ((((Utf8.encode a).size : Nat) : Int) == lenOf a) = true := by rw [encode_size HA.out]; simp
          have hcmp : (decide (a < b) == decide (a < b)) = true := by simp
          have hle := encode_less HA.out HB.out
          clear hl hn1 hn2
          go_wp2
          go_ret
          exact ⟨ret_bool (encode_beq HA.out HB.out), (K1.out.alloc _).all⟩
    · refine Calls.mono (R := fun e w' => e = .returned (.bool true) ∧ Keeps [] w w') ?_ (fun e w' h => ⟨h.1, h.2.all⟩)
      have HA := Lib.hid ha
      have HB := Lib.hid hb
      clear ha hb
      go_enter Try.func4, Try.ntmps4
      go_wp2_with fail
      refine (put_yes a _ HA.out).mono ?_
      rintro e w1 ⟨rfl, rfl⟩
      go_wp2_with fail
      refine (put_no b _ (notRune HB.out)).mono ?_
      rintro e w1 ⟨rfl, rfl⟩
      go_wp2_with fail
      refine (alive_any w).mono ?_
      rintro e w1 ⟨rfl, k1⟩
      have K1 := Lib.hid k1
      clear k1
      go_wp2_with fail
      go_ret
      exact ⟨rfl, K1.out⟩
  · refine Calls.mono (R := fun e w' => e = .returned (.bool true) ∧ Keeps [] w w') ?_ (fun e w' h => ⟨h.1, h.2.all⟩)
    have HA := Lib.hid ha
    clear ha
    by_cases hb : isRune b
    all_goals
      have HB := Lib.hid hb
      clear hb
      go_enter Try.func4, Try.ntmps4
      go_wp2_with fail
      refine (put_no a _ (notRune HA.out)).mono ?_
      rintro e w1 ⟨rfl, rfl⟩
      go_wp2_with fail
      first | (refine (put_yes b _ HB.out).mono ?_) | (refine (put_no b _ (notRune HB.out)).mono ?_)
      rintro e w1 ⟨rfl, rfl⟩
      go_wp2_with fail
      refine (alive_any w).mono ?_
      rintro e w1 ⟨rfl, k1⟩
      have K1 := Lib.hid k1
      clear k1
      go_wp2_with fail
      go_ret
      exact ⟨rfl, K1.out⟩
end Go.Proofs.Ytcbpjongpfcmkaa
