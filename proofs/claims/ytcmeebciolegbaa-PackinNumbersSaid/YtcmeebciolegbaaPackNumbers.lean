/-
  PackinNumbers' walk: all of it.
-/
import Derived.Test.YtcmeebciolegbaaPackNumsU
import Derived.Test.YtcmeebciolegbaaPackNumsS
import Derived.Test.YtcmeebciolegbaaPackNumsT
import Derived.Test.YtcmeebciolegbaaArith
import Derived.Test.YtcmeebciolegbaaPackNumPlain
import Derived.Deep.RegionHeld
import Derived.Deep.QuietTactic
import Derived.BigQuiet
namespace Go.Proofs.Ytcmeebciolegbaa
open Go.RowKit Go.Tru

set_option maxHeartbeats 1600000 in
set_option maxRecDepth 100000 in
theorem nums_no_0_neg (v form : Int) (h : v < 0) (hf : (wrap64 (form.tmod 8 + 8)).tmod 8 = 0) (w : World) :
    Calls Try.prog 5 #[.int .i64 v, .int .i64 form] w fun r w' => r = .returned (.bool true) ∧ Keeps [] w w' := by
  have hs0 : Op.shift .shl .i64 1 .i64 0 = pure (.int .i64 1) := by rw [shift_shl_any _ _ _ _ (by decide)]; rfl
  have hs1 : Op.shift .shl .i64 1 .i64 8 = pure (.int .i64 256) := by rw [shift_shl_any _ _ _ _ (by decide)]; rfl
  have ht1 : decide (v < 0) = true := decide_eq_true h
  clear h
  go_enter Try.func5, Try.ntmps5
  go_wp2_with fail
  refine (palive_any w).mono ?_
  rintro e w1 ⟨rfl, k1⟩
  have K1 := Lib.hid k1
  clear k1
  go_wp2_with fail
  go_ret
  exact ⟨rfl, K1.out⟩

set_option maxHeartbeats 1600000 in
set_option maxRecDepth 100000 in
theorem nums_no_0_big (v form : Int) (_h0 : 0 ≤ v) (h : 256 ≤ v) (hf : (wrap64 (form.tmod 8 + 8)).tmod 8 = 0) (w : World) :
    Calls Try.prog 5 #[.int .i64 v, .int .i64 form] w fun r w' => r = .returned (.bool true) ∧ Keeps [] w w' := by
  have hs0 : Op.shift .shl .i64 1 .i64 0 = pure (.int .i64 1) := by rw [shift_shl_any _ _ _ _ (by decide)]; rfl
  have hs1 : Op.shift .shl .i64 1 .i64 8 = pure (.int .i64 256) := by rw [shift_shl_any _ _ _ _ (by decide)]; rfl
  have ht1 : decide (v < 0) = false := decide_eq_false (by omega)
  have ht2 : decide ((256 : Int) ≤ v) = true := decide_eq_true h
  clear h _h0
  go_enter Try.func5, Try.ntmps5
  go_wp2_with fail
  refine (palive_any w).mono ?_
  rintro e w1 ⟨rfl, k1⟩
  have K1 := Lib.hid k1
  clear k1
  go_wp2_with fail
  go_ret
  exact ⟨rfl, K1.out⟩

set_option maxHeartbeats 1600000 in
set_option maxRecDepth 100000 in
theorem nums_no_1_neg (v form : Int) (h : v < 0) (hf : (wrap64 (form.tmod 8 + 8)).tmod 8 = 1) (w : World) :
    Calls Try.prog 5 #[.int .i64 v, .int .i64 form] w fun r w' => r = .returned (.bool true) ∧ Keeps [] w w' := by
  have hs0 : Op.shift .shl .i64 1 .i64 1 = pure (.int .i64 2) := by rw [shift_shl_any _ _ _ _ (by decide)]; rfl
  have hs1 : Op.shift .shl .i64 1 .i64 16 = pure (.int .i64 65536) := by rw [shift_shl_any _ _ _ _ (by decide)]; rfl
  have ht1 : decide (v < 0) = true := decide_eq_true h
  clear h
  go_enter Try.func5, Try.ntmps5
  go_wp2_with fail
  refine (palive_any w).mono ?_
  rintro e w1 ⟨rfl, k1⟩
  have K1 := Lib.hid k1
  clear k1
  go_wp2_with fail
  go_ret
  exact ⟨rfl, K1.out⟩

set_option maxHeartbeats 1600000 in
set_option maxRecDepth 100000 in
theorem nums_no_1_big (v form : Int) (_h0 : 0 ≤ v) (h : 65536 ≤ v) (hf : (wrap64 (form.tmod 8 + 8)).tmod 8 = 1) (w : World) :
    Calls Try.prog 5 #[.int .i64 v, .int .i64 form] w fun r w' => r = .returned (.bool true) ∧ Keeps [] w w' := by
  have hs0 : Op.shift .shl .i64 1 .i64 1 = pure (.int .i64 2) := by rw [shift_shl_any _ _ _ _ (by decide)]; rfl
  have hs1 : Op.shift .shl .i64 1 .i64 16 = pure (.int .i64 65536) := by rw [shift_shl_any _ _ _ _ (by decide)]; rfl
  have ht1 : decide (v < 0) = false := decide_eq_false (by omega)
  have ht2 : decide ((65536 : Int) ≤ v) = true := decide_eq_true h
  clear h _h0
  go_enter Try.func5, Try.ntmps5
  go_wp2_with fail
  refine (palive_any w).mono ?_
  rintro e w1 ⟨rfl, k1⟩
  have K1 := Lib.hid k1
  clear k1
  go_wp2_with fail
  go_ret
  exact ⟨rfl, K1.out⟩

set_option maxHeartbeats 1600000 in
set_option maxRecDepth 100000 in
theorem nums_no_2_neg (v form : Int) (h : v < 0) (hf : (wrap64 (form.tmod 8 + 8)).tmod 8 = 2) (w : World) :
    Calls Try.prog 5 #[.int .i64 v, .int .i64 form] w fun r w' => r = .returned (.bool true) ∧ Keeps [] w w' := by
  have hs0 : Op.shift .shl .i64 1 .i64 2 = pure (.int .i64 4) := by rw [shift_shl_any _ _ _ _ (by decide)]; rfl
  have hs1 : Op.shift .shl .i64 1 .i64 32 = pure (.int .i64 4294967296) := by rw [shift_shl_any _ _ _ _ (by decide)]; rfl
  have ht1 : decide (v < 0) = true := decide_eq_true h
  clear h
  go_enter Try.func5, Try.ntmps5
  go_wp2_with fail
  refine (palive_any w).mono ?_
  rintro e w1 ⟨rfl, k1⟩
  have K1 := Lib.hid k1
  clear k1
  go_wp2_with fail
  go_ret
  exact ⟨rfl, K1.out⟩

set_option maxHeartbeats 1600000 in
set_option maxRecDepth 100000 in
theorem nums_no_2_big (v form : Int) (_h0 : 0 ≤ v) (h : 4294967296 ≤ v) (hf : (wrap64 (form.tmod 8 + 8)).tmod 8 = 2) (w : World) :
    Calls Try.prog 5 #[.int .i64 v, .int .i64 form] w fun r w' => r = .returned (.bool true) ∧ Keeps [] w w' := by
  have hs0 : Op.shift .shl .i64 1 .i64 2 = pure (.int .i64 4) := by rw [shift_shl_any _ _ _ _ (by decide)]; rfl
  have hs1 : Op.shift .shl .i64 1 .i64 32 = pure (.int .i64 4294967296) := by rw [shift_shl_any _ _ _ _ (by decide)]; rfl
  have ht1 : decide (v < 0) = false := decide_eq_false (by omega)
  have ht2 : decide ((4294967296 : Int) ≤ v) = true := decide_eq_true h
  clear h _h0
  go_enter Try.func5, Try.ntmps5
  go_wp2_with fail
  refine (palive_any w).mono ?_
  rintro e w1 ⟨rfl, k1⟩
  have K1 := Lib.hid k1
  clear k1
  go_wp2_with fail
  go_ret
  exact ⟨rfl, K1.out⟩

set_option maxHeartbeats 1600000 in
set_option maxRecDepth 100000 in
theorem nums_no_3_neg (v form : Int) (h : v < 0) (hf : (wrap64 (form.tmod 8 + 8)).tmod 8 = 3) (w : World) :
    Calls Try.prog 5 #[.int .i64 v, .int .i64 form] w fun r w' => r = .returned (.bool true) ∧ Keeps [] w w' := by
  have hs0 : Op.shift .shl .i64 1 .i64 3 = pure (.int .i64 8) := by rw [shift_shl_any _ _ _ _ (by decide)]; rfl
  have ht1 : decide (v < 0) = true := decide_eq_true h
  clear h
  go_enter Try.func5, Try.ntmps5
  go_wp2_with fail
  refine (palive_any w).mono ?_
  rintro e w1 ⟨rfl, k1⟩
  have K1 := Lib.hid k1
  clear k1
  go_wp2_with fail
  go_ret
  exact ⟨rfl, K1.out⟩

set_option maxHeartbeats 1600000 in
set_option maxRecDepth 100000 in
theorem nums_no_4_lo (v form : Int) (h : v < -128) (hf : (wrap64 (form.tmod 8 + 8)).tmod 8 = 4) (w : World) :
    Calls Try.prog 5 #[.int .i64 v, .int .i64 form] w fun r w' => r = .returned (.bool true) ∧ Keeps [] w w' := by
  have hs0 : Op.shift .shl .i64 1 .i64 0 = pure (.int .i64 1) := by rw [shift_shl_any _ _ _ _ (by decide)]; rfl
  have hs1 : Op.shift .shl .i64 1 .i64 7 = pure (.int .i64 128) := by rw [shift_shl_any _ _ _ _ (by decide)]; rfl
  have hs2 : Op.shift .shl .i64 (-1) .i64 7 = pure (.int .i64 (-128)) := by rw [shift_shl_any _ _ _ _ (by decide)]; rfl
  have ht1 : decide ((128 : Int) ≤ v) = false := decide_eq_false (by omega)
  have ht2 : decide (v < -128) = true := decide_eq_true h
  clear h
  go_enter Try.func5, Try.ntmps5
  go_wp2_with fail
  refine (palive_any w).mono ?_
  rintro e w1 ⟨rfl, k1⟩
  have K1 := Lib.hid k1
  clear k1
  go_wp2_with fail
  go_ret
  exact ⟨rfl, K1.out⟩

set_option maxHeartbeats 1600000 in
set_option maxRecDepth 100000 in
theorem nums_no_4_hi (v form : Int) (h : 128 ≤ v) (hf : (wrap64 (form.tmod 8 + 8)).tmod 8 = 4) (w : World) :
    Calls Try.prog 5 #[.int .i64 v, .int .i64 form] w fun r w' => r = .returned (.bool true) ∧ Keeps [] w w' := by
  have hs0 : Op.shift .shl .i64 1 .i64 0 = pure (.int .i64 1) := by rw [shift_shl_any _ _ _ _ (by decide)]; rfl
  have hs1 : Op.shift .shl .i64 1 .i64 7 = pure (.int .i64 128) := by rw [shift_shl_any _ _ _ _ (by decide)]; rfl
  have hs2 : Op.shift .shl .i64 (-1) .i64 7 = pure (.int .i64 (-128)) := by rw [shift_shl_any _ _ _ _ (by decide)]; rfl
  have ht1 : decide ((128 : Int) ≤ v) = true := decide_eq_true h
  clear h
  go_enter Try.func5, Try.ntmps5
  go_wp2_with fail
  refine (palive_any w).mono ?_
  rintro e w1 ⟨rfl, k1⟩
  have K1 := Lib.hid k1
  clear k1
  go_wp2_with fail
  go_ret
  exact ⟨rfl, K1.out⟩

set_option maxHeartbeats 1600000 in
set_option maxRecDepth 100000 in
theorem nums_no_5_lo (v form : Int) (h : v < -32768) (hf : (wrap64 (form.tmod 8 + 8)).tmod 8 = 5) (w : World) :
    Calls Try.prog 5 #[.int .i64 v, .int .i64 form] w fun r w' => r = .returned (.bool true) ∧ Keeps [] w w' := by
  have hs0 : Op.shift .shl .i64 1 .i64 1 = pure (.int .i64 2) := by rw [shift_shl_any _ _ _ _ (by decide)]; rfl
  have hs1 : Op.shift .shl .i64 1 .i64 15 = pure (.int .i64 32768) := by rw [shift_shl_any _ _ _ _ (by decide)]; rfl
  have hs2 : Op.shift .shl .i64 (-1) .i64 15 = pure (.int .i64 (-32768)) := by rw [shift_shl_any _ _ _ _ (by decide)]; rfl
  have ht1 : decide ((32768 : Int) ≤ v) = false := decide_eq_false (by omega)
  have ht2 : decide (v < -32768) = true := decide_eq_true h
  clear h
  go_enter Try.func5, Try.ntmps5
  go_wp2_with fail
  refine (palive_any w).mono ?_
  rintro e w1 ⟨rfl, k1⟩
  have K1 := Lib.hid k1
  clear k1
  go_wp2_with fail
  go_ret
  exact ⟨rfl, K1.out⟩

set_option maxHeartbeats 1600000 in
set_option maxRecDepth 100000 in
theorem nums_no_5_hi (v form : Int) (h : 32768 ≤ v) (hf : (wrap64 (form.tmod 8 + 8)).tmod 8 = 5) (w : World) :
    Calls Try.prog 5 #[.int .i64 v, .int .i64 form] w fun r w' => r = .returned (.bool true) ∧ Keeps [] w w' := by
  have hs0 : Op.shift .shl .i64 1 .i64 1 = pure (.int .i64 2) := by rw [shift_shl_any _ _ _ _ (by decide)]; rfl
  have hs1 : Op.shift .shl .i64 1 .i64 15 = pure (.int .i64 32768) := by rw [shift_shl_any _ _ _ _ (by decide)]; rfl
  have hs2 : Op.shift .shl .i64 (-1) .i64 15 = pure (.int .i64 (-32768)) := by rw [shift_shl_any _ _ _ _ (by decide)]; rfl
  have ht1 : decide ((32768 : Int) ≤ v) = true := decide_eq_true h
  clear h
  go_enter Try.func5, Try.ntmps5
  go_wp2_with fail
  refine (palive_any w).mono ?_
  rintro e w1 ⟨rfl, k1⟩
  have K1 := Lib.hid k1
  clear k1
  go_wp2_with fail
  go_ret
  exact ⟨rfl, K1.out⟩

set_option maxHeartbeats 1600000 in
set_option maxRecDepth 100000 in
theorem nums_no_6_lo (v form : Int) (h : v < -2147483648) (hf : (wrap64 (form.tmod 8 + 8)).tmod 8 = 6) (w : World) :
    Calls Try.prog 5 #[.int .i64 v, .int .i64 form] w fun r w' => r = .returned (.bool true) ∧ Keeps [] w w' := by
  have hs0 : Op.shift .shl .i64 1 .i64 2 = pure (.int .i64 4) := by rw [shift_shl_any _ _ _ _ (by decide)]; rfl
  have hs1 : Op.shift .shl .i64 1 .i64 31 = pure (.int .i64 2147483648) := by rw [shift_shl_any _ _ _ _ (by decide)]; rfl
  have hs2 : Op.shift .shl .i64 (-1) .i64 31 = pure (.int .i64 (-2147483648)) := by rw [shift_shl_any _ _ _ _ (by decide)]; rfl
  have ht1 : decide ((2147483648 : Int) ≤ v) = false := decide_eq_false (by omega)
  have ht2 : decide (v < -2147483648) = true := decide_eq_true h
  clear h
  go_enter Try.func5, Try.ntmps5
  go_wp2_with fail
  refine (palive_any w).mono ?_
  rintro e w1 ⟨rfl, k1⟩
  have K1 := Lib.hid k1
  clear k1
  go_wp2_with fail
  go_ret
  exact ⟨rfl, K1.out⟩

set_option maxHeartbeats 1600000 in
set_option maxRecDepth 100000 in
theorem nums_no_6_hi (v form : Int) (h : 2147483648 ≤ v) (hf : (wrap64 (form.tmod 8 + 8)).tmod 8 = 6) (w : World) :
    Calls Try.prog 5 #[.int .i64 v, .int .i64 form] w fun r w' => r = .returned (.bool true) ∧ Keeps [] w w' := by
  have hs0 : Op.shift .shl .i64 1 .i64 2 = pure (.int .i64 4) := by rw [shift_shl_any _ _ _ _ (by decide)]; rfl
  have hs1 : Op.shift .shl .i64 1 .i64 31 = pure (.int .i64 2147483648) := by rw [shift_shl_any _ _ _ _ (by decide)]; rfl
  have hs2 : Op.shift .shl .i64 (-1) .i64 31 = pure (.int .i64 (-2147483648)) := by rw [shift_shl_any _ _ _ _ (by decide)]; rfl
  have ht1 : decide ((2147483648 : Int) ≤ v) = true := decide_eq_true h
  clear h
  go_enter Try.func5, Try.ntmps5
  go_wp2_with fail
  refine (palive_any w).mono ?_
  rintro e w1 ⟨rfl, k1⟩
  have K1 := Lib.hid k1
  clear k1
  go_wp2_with fail
  go_ret
  exact ⟨rfl, K1.out⟩

theorem packinNumbers_walk (v form : Int) (w : World) (hv : -9223372036854775808 ≤ v ∧ v ≤ 9223372036854775807) (_ : -9223372036854775808 ≤ form ∧ form ≤ 9223372036854775807) :
    Calls Try.prog 5 #[.int .i64 v, .int .i64 form] w fun r w' => r = .returned (.bool true) ∧ Below w.heap.size w w' := by
  refine Calls.mono (R := fun r w' => r = .returned (.bool true) ∧ Keeps [] w w') ?_ (fun r w' h => ⟨h.1, h.2.all⟩)
  have h1 : -8 < form.tmod 8 ∧ form.tmod 8 < 8 := by
    have := Int.tmod_lt_of_pos form (show (0 : Int) < 8 by decide)
    have := Int.lt_tmod_of_pos form (show (0 : Int) < 8 by decide)
    omega
  have h2 : wrap64 (form.tmod 8 + 8) = form.tmod 8 + 8 := by unfold wrap64; omega
  obtain ⟨y, hy⟩ : ∃ y : Int, form.tmod 8 + 8 = y := ⟨_, rfl⟩
  have h3 : y.tmod 8 = y % 8 := Int.tmod_eq_emod_of_nonneg (by omega)
  obtain ⟨q, hq⟩ : ∃ q : Int, (wrap64 (form.tmod 8 + 8)).tmod 8 = q := ⟨_, rfl⟩
  have h4 : 0 ≤ q ∧ q < 8 := by rw [← hq, h2, hy, h3]; omega
  have hp : 0 ≤ v → ((v.toNat : Nat) : Int) = v := fun h => by omega
  have hn : v < 0 → (((18446744073709551616 + v).toNat : Nat) : Int) = 18446744073709551616 + v := fun h => by omega
  rcases (show q = 0 ∨ q = 1 ∨ q = 2 ∨ q = 3 ∨ q = 4 ∨ q = 5 ∨ q = 6 ∨ q = 7 by omega) with rfl | rfl | rfl | rfl | rfl | rfl | rfl | rfl
  · by_cases hneg : v < 0
    · exact nums_no_0_neg v form hneg hq w
    · by_cases hbig : 256 ≤ v
      · exact nums_no_0_big v form (by omega) hbig hq w
      · exact nums_0_p v form v.toNat (by omega) (by omega) (hp (by omega)) hq w
  · by_cases hneg : v < 0
    · exact nums_no_1_neg v form hneg hq w
    · by_cases hbig : 65536 ≤ v
      · exact nums_no_1_big v form (by omega) hbig hq w
      · exact nums_1_p v form v.toNat (by omega) (by omega) (hp (by omega)) hq w
  · by_cases hneg : v < 0
    · exact nums_no_2_neg v form hneg hq w
    · by_cases hbig : 4294967296 ≤ v
      · exact nums_no_2_big v form (by omega) hbig hq w
      · exact nums_2_p v form v.toNat (by omega) (by omega) (hp (by omega)) hq w
  · by_cases hneg : v < 0
    · exact nums_no_3_neg v form hneg hq w
    · exact nums_3_p v form v.toNat (by omega) (by omega) (hp (by omega)) hq w
  · by_cases hlo : v < -128
    · exact nums_no_4_lo v form hlo hq w
    by_cases hhi : 128 ≤ v
    · exact nums_no_4_hi v form hhi hq w
    by_cases hneg : v < 0
    · exact nums_4_n v form (18446744073709551616 + v).toNat (by omega) (by omega) (hn hneg) hq w
    · exact nums_4_p v form v.toNat (by omega) (by omega) (hp (by omega)) hq w
  · by_cases hlo : v < -32768
    · exact nums_no_5_lo v form hlo hq w
    by_cases hhi : 32768 ≤ v
    · exact nums_no_5_hi v form hhi hq w
    by_cases hneg : v < 0
    · exact nums_5_n v form (18446744073709551616 + v).toNat (by omega) (by omega) (hn hneg) hq w
    · exact nums_5_p v form v.toNat (by omega) (by omega) (hp (by omega)) hq w
  · by_cases hlo : v < -2147483648
    · exact nums_no_6_lo v form hlo hq w
    by_cases hhi : 2147483648 ≤ v
    · exact nums_no_6_hi v form hhi hq w
    by_cases hneg : v < 0
    · exact nums_6_n v form (18446744073709551616 + v).toNat (by omega) (by omega) (hn hneg) hq w
    · exact nums_6_p v form v.toNat (by omega) (by omega) (hp (by omega)) hq w
  · by_cases hneg : v < 0
    · exact nums_7_n v form (18446744073709551616 + v).toNat (by omega) (by omega) (hn hneg) hq w
    · exact nums_7_p v form v.toNat (by omega) (by omega) (hp (by omega)) hq w
end Go.Proofs.Ytcmeebciolegbaa
