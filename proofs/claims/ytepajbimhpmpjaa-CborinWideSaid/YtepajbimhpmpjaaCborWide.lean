/-
  CborinWide's walk.
-/
import Derived.Test.YtepajbimhpmpjaaCborWideF
import Derived.Test.YtepajbimhpmpjaaCborWideT
namespace Go.Proofs.Ytepajbimhpmpjaa
open Go.RowKit Go.Tru

set_option maxHeartbeats 1600000 in
set_option maxRecDepth 100000 in
theorem cwide_no_0 (b : Bool) (v : Nat) (x : Int) (hv : 256 ≤ v) (hx : (wrap64 (x.tmod 4 + 4)).tmod 4 = 0) (w : World) :
    Calls Try.prog 9 #[.agg #[.bool b, .int .u64 v], .int .i64 x] w fun r w' => r = .returned (.bool true) ∧ Keeps [] w w' := by
  have hs0 : Op.shift .shl .u64 8 .i64 0 = pure (.int .u64 8) := by rw [shift_shl_any _ _ _ _ (by decide)]; rfl
  have hs1 : Op.shift .shl .u64 1 .u64 8 = pure (.int .u64 256) := by rw [shift_shl_any _ _ _ _ (by decide)]; rfl
  have hlim : decide ((256 : Int) ≤ (v : Int)) = true := decide_eq_true (by omega)
  clear hv
  go_enter Try.func9, Try.ntmps9
  go_wp2_with fail
  have hnew := Has.new' w #[.bool b, .int .u64 (v : Int)] 56 rfl
  have k0 := (Keeps.refl [] w).alloc (.cells #[.bool b, .int .u64 (v : Int)] 56)
  obtain ⟨w1, hw1⟩ : ∃ w1, w.alloc (.cells #[.bool b, .int .u64 (v : Int)] 56) = w1 := ⟨_, rfl⟩
  rw [hw1] at hnew k0
  rw [hw1]
  have c1 : w1.cell? ⟨w.heap.size, 1, none⟩ = some (.int .u64 v) := hnew.cell 1
  have K0 := Lib.hid k0
  clear hw1 hnew k0
  go_quiet (fail)
  clear hs0 hs1 hlim
  go_wp2_with fail
  refine (calive_any _).mono ?_
  rintro e w4 ⟨rfl, k4⟩
  have K4 := Lib.hid ((K0.out.drewN _).trans k4)
  clear k4
  go_wp2_with fail
  go_ret
  exact ⟨rfl, K4.out⟩

set_option maxHeartbeats 1600000 in
set_option maxRecDepth 100000 in
theorem cwide_no_1 (b : Bool) (v : Nat) (x : Int) (hv : 65536 ≤ v) (hx : (wrap64 (x.tmod 4 + 4)).tmod 4 = 1) (w : World) :
    Calls Try.prog 9 #[.agg #[.bool b, .int .u64 v], .int .i64 x] w fun r w' => r = .returned (.bool true) ∧ Keeps [] w w' := by
  have hs0 : Op.shift .shl .u64 8 .i64 1 = pure (.int .u64 16) := by rw [shift_shl_any _ _ _ _ (by decide)]; rfl
  have hs1 : Op.shift .shl .u64 1 .u64 16 = pure (.int .u64 65536) := by rw [shift_shl_any _ _ _ _ (by decide)]; rfl
  have hlim : decide ((65536 : Int) ≤ (v : Int)) = true := decide_eq_true (by omega)
  clear hv
  go_enter Try.func9, Try.ntmps9
  go_wp2_with fail
  have hnew := Has.new' w #[.bool b, .int .u64 (v : Int)] 56 rfl
  have k0 := (Keeps.refl [] w).alloc (.cells #[.bool b, .int .u64 (v : Int)] 56)
  obtain ⟨w1, hw1⟩ : ∃ w1, w.alloc (.cells #[.bool b, .int .u64 (v : Int)] 56) = w1 := ⟨_, rfl⟩
  rw [hw1] at hnew k0
  rw [hw1]
  have c1 : w1.cell? ⟨w.heap.size, 1, none⟩ = some (.int .u64 v) := hnew.cell 1
  have K0 := Lib.hid k0
  clear hw1 hnew k0
  go_quiet (fail)
  clear hs0 hs1 hlim
  go_wp2_with fail
  refine (calive_any _).mono ?_
  rintro e w4 ⟨rfl, k4⟩
  have K4 := Lib.hid ((K0.out.drewN _).trans k4)
  clear k4
  go_wp2_with fail
  go_ret
  exact ⟨rfl, K4.out⟩

set_option maxHeartbeats 1600000 in
set_option maxRecDepth 100000 in
theorem cwide_no_2 (b : Bool) (v : Nat) (x : Int) (hv : 4294967296 ≤ v) (hx : (wrap64 (x.tmod 4 + 4)).tmod 4 = 2) (w : World) :
    Calls Try.prog 9 #[.agg #[.bool b, .int .u64 v], .int .i64 x] w fun r w' => r = .returned (.bool true) ∧ Keeps [] w w' := by
  have hs0 : Op.shift .shl .u64 8 .i64 2 = pure (.int .u64 32) := by rw [shift_shl_any _ _ _ _ (by decide)]; rfl
  have hs1 : Op.shift .shl .u64 1 .u64 32 = pure (.int .u64 4294967296) := by rw [shift_shl_any _ _ _ _ (by decide)]; rfl
  have hlim : decide ((4294967296 : Int) ≤ (v : Int)) = true := decide_eq_true (by omega)
  clear hv
  go_enter Try.func9, Try.ntmps9
  go_wp2_with fail
  have hnew := Has.new' w #[.bool b, .int .u64 (v : Int)] 56 rfl
  have k0 := (Keeps.refl [] w).alloc (.cells #[.bool b, .int .u64 (v : Int)] 56)
  obtain ⟨w1, hw1⟩ : ∃ w1, w.alloc (.cells #[.bool b, .int .u64 (v : Int)] 56) = w1 := ⟨_, rfl⟩
  rw [hw1] at hnew k0
  rw [hw1]
  have c1 : w1.cell? ⟨w.heap.size, 1, none⟩ = some (.int .u64 v) := hnew.cell 1
  have K0 := Lib.hid k0
  clear hw1 hnew k0
  go_quiet (fail)
  clear hs0 hs1 hlim
  go_wp2_with fail
  refine (calive_any _).mono ?_
  rintro e w4 ⟨rfl, k4⟩
  have K4 := Lib.hid ((K0.out.drewN _).trans k4)
  clear k4
  go_wp2_with fail
  go_ret
  exact ⟨rfl, K4.out⟩

theorem cborinWide_walk (b : Bool) (v : Nat) (x : Int) (w : World) (hv : v < 18446744073709551616) (_ : -9223372036854775808 ≤ x ∧ x ≤ 9223372036854775807) :
    Calls Try.prog 9 #[.agg #[.bool b, .int .u64 v], .int .i64 x] w fun r w' => r = .returned (.bool true) ∧ Below w.heap.size w w' := by
  refine Calls.mono (R := fun r w' => r = .returned (.bool true) ∧ Keeps [] w w') ?_ (fun r w' h => ⟨h.1, h.2.all⟩)
  have h1 : -4 < x.tmod 4 ∧ x.tmod 4 < 4 := by
    have := Int.tmod_lt_of_pos x (show (0 : Int) < 4 by decide)
    have := Int.lt_tmod_of_pos x (show (0 : Int) < 4 by decide)
    omega
  have h2 : wrap64 (x.tmod 4 + 4) = x.tmod 4 + 4 := by unfold wrap64; omega
  obtain ⟨y, hy⟩ : ∃ y : Int, x.tmod 4 + 4 = y := ⟨_, rfl⟩
  have h3 : y.tmod 4 = y % 4 := Int.tmod_eq_emod_of_nonneg (by omega)
  have h4 : (wrap64 (x.tmod 4 + 4)).tmod 4 = 0 ∨ (wrap64 (x.tmod 4 + 4)).tmod 4 = 1 ∨ (wrap64 (x.tmod 4 + 4)).tmod 4 = 2 ∨ (wrap64 (x.tmod 4 + 4)).tmod 4 = 3 := by
    rw [h2, hy, h3]; omega
  rcases h4 with h | h | h | h
  · by_cases hl : v < 256
    · cases b
      · exact cwide_f_1 v x hl h w
      · exact cwide_t_1 v x hl h w
    · exact cwide_no_0 b v x (by omega) h w
  · by_cases hl : v < 65536
    · cases b
      · exact cwide_f_2 v x hl h w
      · exact cwide_t_2 v x hl h w
    · exact cwide_no_1 b v x (by omega) h w
  · by_cases hl : v < 4294967296
    · cases b
      · exact cwide_f_4 v x hl h w
      · exact cwide_t_4 v x hl h w
    · exact cwide_no_2 b v x (by omega) h w
  · cases b
    · exact cwide_f_8 v x hv h w
    · exact cwide_t_8 v x hv h w
end Go.Proofs.Ytepajbimhpmpjaa
