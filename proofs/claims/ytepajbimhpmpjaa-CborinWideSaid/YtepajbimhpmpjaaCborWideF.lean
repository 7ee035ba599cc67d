/-
  CborinWide's walk: one sign.
-/
import Derived.Test.YtepajbimhpmpjaaCborOne
import Derived.Test.YtepajbimhpmpjaaCborRuns
import Derived.Deep.RegionHeld
import Derived.Deep.QuietTactic
import Derived.BigQuiet
namespace Go.Proofs.Ytepajbimhpmpjaa
open Go.RowKit Go.Tru

set_option maxHeartbeats 1600000 in
set_option maxRecDepth 100000 in
theorem cwide_f_1 (v : Nat) (x : Int) (hv : v < 256) (hx : (wrap64 (x.tmod 4 + 4)).tmod 4 = 0) (w : World) :
    Calls Try.prog 9 #[.agg #[.bool false, .int .u64 v], .int .i64 x] w fun r w' => r = .returned (.bool true) ∧ Keeps [] w w' := by
  have hconv : ∀ (W : World) (g : Nat), W.cell? ⟨g, 0, none⟩ = some (.int .u8 24) → (convert 41 9 (.slice (some ⟨g, 0, none⟩) 1 1)).run Try.prog W = .ok (.string ⟨#[24]⟩) W := fun W g hg =>
    run_convert_bytes_back W 41 9 5 ⟨g, 0, none⟩ 1 [24] Try.underlying41 Try.underlying5 Try.underlying9 (fun j hj => by
      obtain rfl : j = 0 := by simp at hj; omega
      exact hg)
  have hconvA : ∀ (W : World) (t : TypeId), (convert 41 9 (.slice (some ⟨W.heap.size, 0, none⟩) 1 1)).run Try.prog (W.alloc (.cells #[.int .u8 24] t)) = .ok (.string ⟨#[24]⟩) (W.alloc (.cells #[.int .u8 24] t)) := fun W t =>
    hconv _ _ ((Has.new' W #[.int .u8 24] t rfl).cell 0)
  have hconvB : ∀ (W : World) (t : TypeId), (convert 41 9 (.slice (some ⟨W.heap.size, 0, none⟩) 1 1)).run Try.prog (W.alloc (.cells #[.int .u8 24] t)).drew = .ok (.string ⟨#[24]⟩) (W.alloc (.cells #[.int .u8 24] t)).drew := fun W t =>
    hconv _ _ ((Has.new' W #[.int .u8 24] t rfl).cell 0)
  have HCONV := Lib.hid hconv
  have HBIG := Lib.hid (fun W => big_any v 1 (by omega) (by omega) W)
  have hall := wide_all (M := 0) (v := v) (by omega) 0 0 (by omega) rfl (Nat.div_eq_of_lt (by omega))
  have HALL := Lib.hid (fun W => cborAll_one (s := ⟨#[24]⟩ ++ bytesOf (bigB v 1)) (d := 1) (W := W) (by rw [str_cons]; simp [bytesOf, ByteArray.size, bigB_len]) (by rw [str_cons]; exact hall))
  have heq : ∀ W, (binOp .eql 36 (.agg #[.int .i64 2, .bool false, .int .u64 v, .string ⟨#[]⟩, .int .i64 0]) (.agg #[.int .i64 2, .bool false, .int .u64 v, .string ⟨#[]⟩, .int .i64 0])).run Try.prog W = .ok (.bool true) W := fun W => by
    have := eql_ev (evInt false v) (evInt false v) W
    rw [show (evInt false (v : Int)).same (evInt false v) = true from same_iff.2 rfl] at this
    exact this
  have hlim : decide ((256 : Int) ≤ (v : Int)) = false := by simp; omega
  have hs0 : Op.shift .shl .u64 8 .i64 0 = pure (.int .u64 8) := by rw [shift_shl_any _ _ _ _ (by decide)]; rfl
  have hs1 : Op.shift .shl .u64 1 .u64 8 = pure (.int .u64 256) := by rw [shift_shl_any _ _ _ _ (by decide)]; rfl
  have hs2 : Op.shift .shl .i64 1 .i64 0 = pure (.int .i64 1) := by rw [shift_shl_any _ _ _ _ (by decide)]; rfl
  clear hconv hall hv
  go_enter Try.func9, Try.ntmps9
  go_wp2_with fail
  have hnew := Has.new' w #[.bool false, .int .u64 (v : Int)] 56 rfl
  have k0 := (Keeps.refl [] w).alloc (.cells #[.bool false, .int .u64 (v : Int)] 56)
  obtain ⟨w1, hw1⟩ : ∃ w1, w.alloc (.cells #[.bool false, .int .u64 (v : Int)] 56) = w1 := ⟨_, rfl⟩
  rw [hw1] at hnew k0
  rw [hw1]
  have c0 : w1.cell? ⟨w.heap.size, 0, none⟩ = some (.bool false) := hnew.cell 0
  have c1 : w1.cell? ⟨w.heap.size, 1, none⟩ = some (.int .u64 v) := hnew.cell 1
  have K0 := Lib.hid k0
  clear hw1 hnew k0
  go_region_held (fun W => W.cell? ⟨w.heap.size, 0, none⟩ = some (.bool false) ∧ W.cell? ⟨w.heap.size, 1, none⟩ = some (.int .u64 (v : Int))) (go_keep) ((go_at_call 13; refine (calive_any _).mono ?_; rintro e w4 ⟨rfl, k4⟩; have d0 := k4.cell (p := ⟨w.heap.size, 0, none⟩) c0 (by simp); have d1 := k4.cell (p := ⟨w.heap.size, 1, none⟩) c1 (by simp)))
  have K4 := Lib.hid (K0.out.drew.trans k4)
  clear c0 c1 k4 K0 hlim hs0 hs1
  go_wp2_with fail
  clear hx
  go_region_held (fun W => W.cell? ⟨w.heap.size, 0, none⟩ = some (.bool false) ∧ W.cell? ⟨w.heap.size, 1, none⟩ = some (.int .u64 (v : Int))) (go_keep) (first
    | (go_at_call 23; refine (HBIG.out _).mono ?_; rintro e w5 ⟨rfl, k5⟩; have e0 : w5.cell? ⟨w.heap.size, 0, none⟩ = some (.bool false) := k5.cell (by first | exact d0 | go_keep) (by simp); have e1 : w5.cell? ⟨w.heap.size, 1, none⟩ = some (.int .u64 (v : Int)) := k5.cell (by first | exact d1 | go_keep) (by simp); try have c5 := HCONV.out w5 w4.heap.size (k5.cell ((Has.new' w4 #[.int .u8 24] _ rfl).cell 0) (by simp)))
    | (go_at_call 17; refine (HALL.out _).mono ?_; rintro e w6 ⟨b2, o2, cc, rfl, ⟨q0, q1, q2, q3, q4⟩, hc, k6⟩; have e2 : w6.cell? ⟨w.heap.size, 0, none⟩ = some (.bool false) := k6.cell (by first | exact e0 | go_keep) (by simp); have e3 : w6.cell? ⟨w.heap.size, 1, none⟩ = some (.int .u64 (v : Int)) := k6.cell (by first | exact e1 | go_keep) (by simp)))
  all_goals
    have KK : Keeps [] w w6 := by
      first
        | exact (((K4.out.alloc _).drew).trans k5).trans k6
        | exact (((K4.out.drew).trans k5).alloc _).trans k6
        | exact (((K4.out.drew).alloc _).trans k5).trans k6
        | exact ((((K4.out.drew).trans k5).alloc _).drew).trans k6
        | exact ((((K4.out.drew).alloc _).drew).trans k5).trans k6
    have K6 := Lib.hid KK
    simp only [evInt, noText] at q0 q1 q2 q3 q4
    clear KK k5 k6 K4 hconvA hconvB hs2
    go_wp2_with fail
    go_quiet (fail)
    go_wp2_with fail
    go_ret
    exact ⟨rfl, K6.out.drewN _⟩

set_option maxHeartbeats 1600000 in
set_option maxRecDepth 100000 in
theorem cwide_f_2 (v : Nat) (x : Int) (hv : v < 65536) (hx : (wrap64 (x.tmod 4 + 4)).tmod 4 = 1) (w : World) :
    Calls Try.prog 9 #[.agg #[.bool false, .int .u64 v], .int .i64 x] w fun r w' => r = .returned (.bool true) ∧ Keeps [] w w' := by
  have hconv : ∀ (W : World) (g : Nat), W.cell? ⟨g, 0, none⟩ = some (.int .u8 25) → (convert 41 9 (.slice (some ⟨g, 0, none⟩) 1 1)).run Try.prog W = .ok (.string ⟨#[25]⟩) W := fun W g hg =>
    run_convert_bytes_back W 41 9 5 ⟨g, 0, none⟩ 1 [25] Try.underlying41 Try.underlying5 Try.underlying9 (fun j hj => by
      obtain rfl : j = 0 := by simp at hj; omega
      exact hg)
  have hconvA : ∀ (W : World) (t : TypeId), (convert 41 9 (.slice (some ⟨W.heap.size, 0, none⟩) 1 1)).run Try.prog (W.alloc (.cells #[.int .u8 25] t)) = .ok (.string ⟨#[25]⟩) (W.alloc (.cells #[.int .u8 25] t)) := fun W t =>
    hconv _ _ ((Has.new' W #[.int .u8 25] t rfl).cell 0)
  have hconvB : ∀ (W : World) (t : TypeId), (convert 41 9 (.slice (some ⟨W.heap.size, 0, none⟩) 1 1)).run Try.prog (W.alloc (.cells #[.int .u8 25] t)).drew = .ok (.string ⟨#[25]⟩) (W.alloc (.cells #[.int .u8 25] t)).drew := fun W t =>
    hconv _ _ ((Has.new' W #[.int .u8 25] t rfl).cell 0)
  have HCONV := Lib.hid hconv
  have HBIG := Lib.hid (fun W => big_any v 2 (by omega) (by omega) W)
  have hall := wide_all (M := 0) (v := v) (by omega) 1 1 (by omega) rfl (Nat.div_eq_of_lt (by omega))
  have HALL := Lib.hid (fun W => cborAll_one (s := ⟨#[25]⟩ ++ bytesOf (bigB v 2)) (d := 1) (W := W) (by rw [str_cons]; simp [bytesOf, ByteArray.size, bigB_len]) (by rw [str_cons]; exact hall))
  have heq : ∀ W, (binOp .eql 36 (.agg #[.int .i64 2, .bool false, .int .u64 v, .string ⟨#[]⟩, .int .i64 0]) (.agg #[.int .i64 2, .bool false, .int .u64 v, .string ⟨#[]⟩, .int .i64 0])).run Try.prog W = .ok (.bool true) W := fun W => by
    have := eql_ev (evInt false v) (evInt false v) W
    rw [show (evInt false (v : Int)).same (evInt false v) = true from same_iff.2 rfl] at this
    exact this
  have hlim : decide ((65536 : Int) ≤ (v : Int)) = false := by simp; omega
  have hs0 : Op.shift .shl .u64 8 .i64 1 = pure (.int .u64 16) := by rw [shift_shl_any _ _ _ _ (by decide)]; rfl
  have hs1 : Op.shift .shl .u64 1 .u64 16 = pure (.int .u64 65536) := by rw [shift_shl_any _ _ _ _ (by decide)]; rfl
  have hs2 : Op.shift .shl .i64 1 .i64 1 = pure (.int .i64 2) := by rw [shift_shl_any _ _ _ _ (by decide)]; rfl
  clear hconv hall hv
  go_enter Try.func9, Try.ntmps9
  go_wp2_with fail
  have hnew := Has.new' w #[.bool false, .int .u64 (v : Int)] 56 rfl
  have k0 := (Keeps.refl [] w).alloc (.cells #[.bool false, .int .u64 (v : Int)] 56)
  obtain ⟨w1, hw1⟩ : ∃ w1, w.alloc (.cells #[.bool false, .int .u64 (v : Int)] 56) = w1 := ⟨_, rfl⟩
  rw [hw1] at hnew k0
  rw [hw1]
  have c0 : w1.cell? ⟨w.heap.size, 0, none⟩ = some (.bool false) := hnew.cell 0
  have c1 : w1.cell? ⟨w.heap.size, 1, none⟩ = some (.int .u64 v) := hnew.cell 1
  have K0 := Lib.hid k0
  clear hw1 hnew k0
  go_region_held (fun W => W.cell? ⟨w.heap.size, 0, none⟩ = some (.bool false) ∧ W.cell? ⟨w.heap.size, 1, none⟩ = some (.int .u64 (v : Int))) (go_keep) ((go_at_call 13; refine (calive_any _).mono ?_; rintro e w4 ⟨rfl, k4⟩; have d0 := k4.cell (p := ⟨w.heap.size, 0, none⟩) c0 (by simp); have d1 := k4.cell (p := ⟨w.heap.size, 1, none⟩) c1 (by simp)))
  have K4 := Lib.hid (K0.out.drew.trans k4)
  clear c0 c1 k4 K0 hlim hs0 hs1
  go_wp2_with fail
  clear hx
  go_region_held (fun W => W.cell? ⟨w.heap.size, 0, none⟩ = some (.bool false) ∧ W.cell? ⟨w.heap.size, 1, none⟩ = some (.int .u64 (v : Int))) (go_keep) (first
    | (go_at_call 23; refine (HBIG.out _).mono ?_; rintro e w5 ⟨rfl, k5⟩; have e0 : w5.cell? ⟨w.heap.size, 0, none⟩ = some (.bool false) := k5.cell (by first | exact d0 | go_keep) (by simp); have e1 : w5.cell? ⟨w.heap.size, 1, none⟩ = some (.int .u64 (v : Int)) := k5.cell (by first | exact d1 | go_keep) (by simp); try have c5 := HCONV.out w5 w4.heap.size (k5.cell ((Has.new' w4 #[.int .u8 25] _ rfl).cell 0) (by simp)))
    | (go_at_call 17; refine (HALL.out _).mono ?_; rintro e w6 ⟨b2, o2, cc, rfl, ⟨q0, q1, q2, q3, q4⟩, hc, k6⟩; have e2 : w6.cell? ⟨w.heap.size, 0, none⟩ = some (.bool false) := k6.cell (by first | exact e0 | go_keep) (by simp); have e3 : w6.cell? ⟨w.heap.size, 1, none⟩ = some (.int .u64 (v : Int)) := k6.cell (by first | exact e1 | go_keep) (by simp)))
  all_goals
    have KK : Keeps [] w w6 := by
      first
        | exact (((K4.out.alloc _).drew).trans k5).trans k6
        | exact (((K4.out.drew).trans k5).alloc _).trans k6
        | exact (((K4.out.drew).alloc _).trans k5).trans k6
        | exact ((((K4.out.drew).trans k5).alloc _).drew).trans k6
        | exact ((((K4.out.drew).alloc _).drew).trans k5).trans k6
    have K6 := Lib.hid KK
    simp only [evInt, noText] at q0 q1 q2 q3 q4
    clear KK k5 k6 K4 hconvA hconvB hs2
    go_wp2_with fail
    go_quiet (fail)
    go_wp2_with fail
    go_ret
    exact ⟨rfl, K6.out.drewN _⟩

set_option maxHeartbeats 1600000 in
set_option maxRecDepth 100000 in
theorem cwide_f_4 (v : Nat) (x : Int) (hv : v < 4294967296) (hx : (wrap64 (x.tmod 4 + 4)).tmod 4 = 2) (w : World) :
    Calls Try.prog 9 #[.agg #[.bool false, .int .u64 v], .int .i64 x] w fun r w' => r = .returned (.bool true) ∧ Keeps [] w w' := by
  have hconv : ∀ (W : World) (g : Nat), W.cell? ⟨g, 0, none⟩ = some (.int .u8 26) → (convert 41 9 (.slice (some ⟨g, 0, none⟩) 1 1)).run Try.prog W = .ok (.string ⟨#[26]⟩) W := fun W g hg =>
    run_convert_bytes_back W 41 9 5 ⟨g, 0, none⟩ 1 [26] Try.underlying41 Try.underlying5 Try.underlying9 (fun j hj => by
      obtain rfl : j = 0 := by simp at hj; omega
      exact hg)
  have hconvA : ∀ (W : World) (t : TypeId), (convert 41 9 (.slice (some ⟨W.heap.size, 0, none⟩) 1 1)).run Try.prog (W.alloc (.cells #[.int .u8 26] t)) = .ok (.string ⟨#[26]⟩) (W.alloc (.cells #[.int .u8 26] t)) := fun W t =>
    hconv _ _ ((Has.new' W #[.int .u8 26] t rfl).cell 0)
  have hconvB : ∀ (W : World) (t : TypeId), (convert 41 9 (.slice (some ⟨W.heap.size, 0, none⟩) 1 1)).run Try.prog (W.alloc (.cells #[.int .u8 26] t)).drew = .ok (.string ⟨#[26]⟩) (W.alloc (.cells #[.int .u8 26] t)).drew := fun W t =>
    hconv _ _ ((Has.new' W #[.int .u8 26] t rfl).cell 0)
  have HCONV := Lib.hid hconv
  have HBIG := Lib.hid (fun W => big_any v 4 (by omega) (by omega) W)
  have hall := wide_all (M := 0) (v := v) (by omega) 2 3 (by omega) rfl (Nat.div_eq_of_lt (by omega))
  have HALL := Lib.hid (fun W => cborAll_one (s := ⟨#[26]⟩ ++ bytesOf (bigB v 4)) (d := 1) (W := W) (by rw [str_cons]; simp [bytesOf, ByteArray.size, bigB_len]) (by rw [str_cons]; exact hall))
  have heq : ∀ W, (binOp .eql 36 (.agg #[.int .i64 2, .bool false, .int .u64 v, .string ⟨#[]⟩, .int .i64 0]) (.agg #[.int .i64 2, .bool false, .int .u64 v, .string ⟨#[]⟩, .int .i64 0])).run Try.prog W = .ok (.bool true) W := fun W => by
    have := eql_ev (evInt false v) (evInt false v) W
    rw [show (evInt false (v : Int)).same (evInt false v) = true from same_iff.2 rfl] at this
    exact this
  have hlim : decide ((4294967296 : Int) ≤ (v : Int)) = false := by simp; omega
  have hs0 : Op.shift .shl .u64 8 .i64 2 = pure (.int .u64 32) := by rw [shift_shl_any _ _ _ _ (by decide)]; rfl
  have hs1 : Op.shift .shl .u64 1 .u64 32 = pure (.int .u64 4294967296) := by rw [shift_shl_any _ _ _ _ (by decide)]; rfl
  have hs2 : Op.shift .shl .i64 1 .i64 2 = pure (.int .i64 4) := by rw [shift_shl_any _ _ _ _ (by decide)]; rfl
  clear hconv hall hv
  go_enter Try.func9, Try.ntmps9
  go_wp2_with fail
  have hnew := Has.new' w #[.bool false, .int .u64 (v : Int)] 56 rfl
  have k0 := (Keeps.refl [] w).alloc (.cells #[.bool false, .int .u64 (v : Int)] 56)
  obtain ⟨w1, hw1⟩ : ∃ w1, w.alloc (.cells #[.bool false, .int .u64 (v : Int)] 56) = w1 := ⟨_, rfl⟩
  rw [hw1] at hnew k0
  rw [hw1]
  have c0 : w1.cell? ⟨w.heap.size, 0, none⟩ = some (.bool false) := hnew.cell 0
  have c1 : w1.cell? ⟨w.heap.size, 1, none⟩ = some (.int .u64 v) := hnew.cell 1
  have K0 := Lib.hid k0
  clear hw1 hnew k0
  go_region_held (fun W => W.cell? ⟨w.heap.size, 0, none⟩ = some (.bool false) ∧ W.cell? ⟨w.heap.size, 1, none⟩ = some (.int .u64 (v : Int))) (go_keep) ((go_at_call 13; refine (calive_any _).mono ?_; rintro e w4 ⟨rfl, k4⟩; have d0 := k4.cell (p := ⟨w.heap.size, 0, none⟩) c0 (by simp); have d1 := k4.cell (p := ⟨w.heap.size, 1, none⟩) c1 (by simp)))
  have K4 := Lib.hid (K0.out.drew.trans k4)
  clear c0 c1 k4 K0 hlim hs0 hs1
  go_wp2_with fail
  clear hx
  go_region_held (fun W => W.cell? ⟨w.heap.size, 0, none⟩ = some (.bool false) ∧ W.cell? ⟨w.heap.size, 1, none⟩ = some (.int .u64 (v : Int))) (go_keep) (first
    | (go_at_call 23; refine (HBIG.out _).mono ?_; rintro e w5 ⟨rfl, k5⟩; have e0 : w5.cell? ⟨w.heap.size, 0, none⟩ = some (.bool false) := k5.cell (by first | exact d0 | go_keep) (by simp); have e1 : w5.cell? ⟨w.heap.size, 1, none⟩ = some (.int .u64 (v : Int)) := k5.cell (by first | exact d1 | go_keep) (by simp); try have c5 := HCONV.out w5 w4.heap.size (k5.cell ((Has.new' w4 #[.int .u8 26] _ rfl).cell 0) (by simp)))
    | (go_at_call 17; refine (HALL.out _).mono ?_; rintro e w6 ⟨b2, o2, cc, rfl, ⟨q0, q1, q2, q3, q4⟩, hc, k6⟩; have e2 : w6.cell? ⟨w.heap.size, 0, none⟩ = some (.bool false) := k6.cell (by first | exact e0 | go_keep) (by simp); have e3 : w6.cell? ⟨w.heap.size, 1, none⟩ = some (.int .u64 (v : Int)) := k6.cell (by first | exact e1 | go_keep) (by simp)))
  all_goals
    have KK : Keeps [] w w6 := by
      first
        | exact (((K4.out.alloc _).drew).trans k5).trans k6
        | exact (((K4.out.drew).trans k5).alloc _).trans k6
        | exact (((K4.out.drew).alloc _).trans k5).trans k6
        | exact ((((K4.out.drew).trans k5).alloc _).drew).trans k6
        | exact ((((K4.out.drew).alloc _).drew).trans k5).trans k6
    have K6 := Lib.hid KK
    simp only [evInt, noText] at q0 q1 q2 q3 q4
    clear KK k5 k6 K4 hconvA hconvB hs2
    go_wp2_with fail
    go_quiet (fail)
    go_wp2_with fail
    go_ret
    exact ⟨rfl, K6.out.drewN _⟩

set_option maxHeartbeats 1600000 in
set_option maxRecDepth 100000 in
theorem cwide_f_8 (v : Nat) (x : Int) (hv : v < 18446744073709551616) (hx : (wrap64 (x.tmod 4 + 4)).tmod 4 = 3) (w : World) :
    Calls Try.prog 9 #[.agg #[.bool false, .int .u64 v], .int .i64 x] w fun r w' => r = .returned (.bool true) ∧ Keeps [] w w' := by
  have hconv : ∀ (W : World) (g : Nat), W.cell? ⟨g, 0, none⟩ = some (.int .u8 27) → (convert 41 9 (.slice (some ⟨g, 0, none⟩) 1 1)).run Try.prog W = .ok (.string ⟨#[27]⟩) W := fun W g hg =>
    run_convert_bytes_back W 41 9 5 ⟨g, 0, none⟩ 1 [27] Try.underlying41 Try.underlying5 Try.underlying9 (fun j hj => by
      obtain rfl : j = 0 := by simp at hj; omega
      exact hg)
  have hconvA : ∀ (W : World) (t : TypeId), (convert 41 9 (.slice (some ⟨W.heap.size, 0, none⟩) 1 1)).run Try.prog (W.alloc (.cells #[.int .u8 27] t)) = .ok (.string ⟨#[27]⟩) (W.alloc (.cells #[.int .u8 27] t)) := fun W t =>
    hconv _ _ ((Has.new' W #[.int .u8 27] t rfl).cell 0)
  have hconvB : ∀ (W : World) (t : TypeId), (convert 41 9 (.slice (some ⟨W.heap.size, 0, none⟩) 1 1)).run Try.prog (W.alloc (.cells #[.int .u8 27] t)).drew = .ok (.string ⟨#[27]⟩) (W.alloc (.cells #[.int .u8 27] t)).drew := fun W t =>
    hconv _ _ ((Has.new' W #[.int .u8 27] t rfl).cell 0)
  have HCONV := Lib.hid hconv
  have HBIG := Lib.hid (fun W => big_any v 8 (by omega) (by omega) W)
  have hall := wide_all (M := 0) (v := v) (by omega) 3 7 (by omega) rfl (Nat.div_eq_of_lt (by omega))
  have HALL := Lib.hid (fun W => cborAll_one (s := ⟨#[27]⟩ ++ bytesOf (bigB v 8)) (d := 1) (W := W) (by rw [str_cons]; simp [bytesOf, ByteArray.size, bigB_len]) (by rw [str_cons]; exact hall))
  have heq : ∀ W, (binOp .eql 36 (.agg #[.int .i64 2, .bool false, .int .u64 v, .string ⟨#[]⟩, .int .i64 0]) (.agg #[.int .i64 2, .bool false, .int .u64 v, .string ⟨#[]⟩, .int .i64 0])).run Try.prog W = .ok (.bool true) W := fun W => by
    have := eql_ev (evInt false v) (evInt false v) W
    rw [show (evInt false (v : Int)).same (evInt false v) = true from same_iff.2 rfl] at this
    exact this
  have hs2 : Op.shift .shl .i64 1 .i64 3 = pure (.int .i64 8) := by rw [shift_shl_any _ _ _ _ (by decide)]; rfl
  clear hconv hall hv
  go_enter Try.func9, Try.ntmps9
  go_wp2_with fail
  have hnew := Has.new' w #[.bool false, .int .u64 (v : Int)] 56 rfl
  have k0 := (Keeps.refl [] w).alloc (.cells #[.bool false, .int .u64 (v : Int)] 56)
  obtain ⟨w1, hw1⟩ : ∃ w1, w.alloc (.cells #[.bool false, .int .u64 (v : Int)] 56) = w1 := ⟨_, rfl⟩
  rw [hw1] at hnew k0
  rw [hw1]
  have c0 : w1.cell? ⟨w.heap.size, 0, none⟩ = some (.bool false) := hnew.cell 0
  have c1 : w1.cell? ⟨w.heap.size, 1, none⟩ = some (.int .u64 v) := hnew.cell 1
  have K0 := Lib.hid k0
  clear hw1 hnew k0
  refine wp_region_held_drew (S := fun w' => Keeps [] w1 w') (by kernel_rfl) ((Keeps.refl [] _).drew) (fun hHeld => ?_)
  have HH := Lib.hid hHeld
  clear hHeld
  refine wpAnyH_take (i := 0) (v := ?_) rfl (by kernel_rfl) (by kernel_rfl) (by kernel_rfl) (fun _ _ _ h => h) (Or.inl ⟨by rfl, ?_⟩) HH.out ?_
  rotate_left 1
  first | (intro w hSw; clear hSw; go_simp; done) | (intro w hSw; clear hSw; go_simp; with_reducible rfl)
  try simp only [List.getElem_toArray, List.getElem_cons_zero, Act.put, List.setIfInBounds_toArray, List.set_cons_zero, List.set_cons_succ]
  refine wpAnyH_take (i := 1) (v := ?_) rfl (by kernel_rfl) (by kernel_rfl) (by kernel_rfl) (fun _ _ _ h => h) (Or.inl ⟨by rfl, ?_⟩) HH.out ?_
  rotate_left 1
  first | (intro w hSw; clear hSw; go_simp; done) | (intro w hSw; clear hSw; go_simp; with_reducible rfl)
  try simp only [List.getElem_toArray, List.getElem_cons_zero, List.getElem_cons_succ, Act.put, List.setIfInBounds_toArray, List.set_cons_zero, List.set_cons_succ]
  refine wpAnyH_take (i := 2) (v := ?_) rfl (by kernel_rfl) (by kernel_rfl) (by kernel_rfl) (fun _ _ _ h => h) (Or.inl ⟨by rfl, ?_⟩) HH.out ?_
  rotate_left 1
  first | (intro w hSw; clear hSw; go_simp; done) | (intro w hSw; clear hSw; go_simp; with_reducible rfl)
  try simp only [List.getElem_toArray, List.getElem_cons_zero, List.getElem_cons_succ, Act.put, List.setIfInBounds_toArray, List.set_cons_zero, List.set_cons_succ]
  refine wpAnyH_take (i := 3) (v := undef) rfl (by kernel_rfl) (by kernel_rfl) (by kernel_rfl) (fun _ _ _ h => h) (Or.inr ⟨by rfl, rfl⟩) HH.out ?_
  try simp only [List.getElem_toArray, List.getElem_cons_zero, List.getElem_cons_succ, Act.put, List.setIfInBounds_toArray, List.set_cons_zero, List.set_cons_succ]
  refine wpAnyH_take (i := 4) (v := undef) rfl (by kernel_rfl) (by kernel_rfl) (by kernel_rfl) (fun _ _ _ h => h) (Or.inr ⟨by rfl, rfl⟩) HH.out ?_
  try simp only [List.getElem_toArray, List.getElem_cons_zero, List.getElem_cons_succ, Act.put, List.setIfInBounds_toArray, List.set_cons_zero, List.set_cons_succ]
  refine wpAnyH_take (i := 5) (v := undef) rfl (by kernel_rfl) (by kernel_rfl) (by kernel_rfl) (fun _ _ _ h => h) (Or.inr ⟨by rfl, rfl⟩) HH.out ?_
  try simp only [List.getElem_toArray, List.getElem_cons_zero, List.getElem_cons_succ, Act.put, List.setIfInBounds_toArray, List.set_cons_zero, List.set_cons_succ]
  refine wpAnyH_take (i := 6) (v := undef) rfl (by kernel_rfl) (by kernel_rfl) (by kernel_rfl) (fun _ _ _ h => h) (Or.inr ⟨by rfl, rfl⟩) HH.out ?_
  try simp only [List.getElem_toArray, List.getElem_cons_zero, List.getElem_cons_succ, Act.put, List.setIfInBounds_toArray, List.set_cons_zero, List.set_cons_succ]
  refine wpAnyH_take (i := 7) (v := undef) rfl (by kernel_rfl) (by kernel_rfl) (by kernel_rfl) (fun _ _ _ h => h) (Or.inr ⟨by rfl, rfl⟩) HH.out ?_
  try simp only [List.getElem_toArray, List.getElem_cons_zero, List.getElem_cons_succ, Act.put, List.setIfInBounds_toArray, List.set_cons_zero, List.set_cons_succ]
  refine wpAnyH_take (i := 8) (v := undef) rfl (by kernel_rfl) (by kernel_rfl) (by kernel_rfl) (fun _ _ _ h => h) (Or.inr ⟨by rfl, rfl⟩) HH.out ?_
  try simp only [List.getElem_toArray, List.getElem_cons_zero, List.getElem_cons_succ, Act.put, List.setIfInBounds_toArray, List.set_cons_zero, List.set_cons_succ]
  refine wpAnyH_take (i := 9) (v := ?_) rfl (by kernel_rfl) (by kernel_rfl) (by kernel_rfl) (fun _ _ _ h => h) (Or.inl ⟨by rfl, ?_⟩) HH.out ?_
  rotate_left 1
  first | (intro w hSw; clear hSw; go_simp; done) | (intro w hSw; clear hSw; go_simp; with_reducible rfl)
  try simp only [List.getElem_toArray, List.getElem_cons_zero, List.getElem_cons_succ, Act.put, List.setIfInBounds_toArray, List.set_cons_zero, List.set_cons_succ]
  refine wpAnyH_take (i := 10) (v := ?_) rfl (by kernel_rfl) (by kernel_rfl) (by kernel_rfl) (fun _ _ _ h => h) (Or.inl ⟨by rfl, ?_⟩) HH.out ?_
  rotate_left 1
  first | (intro w hSw; clear hSw; go_simp; done) | (intro w hSw; clear hSw; go_simp; with_reducible rfl)
  try simp only [List.getElem_toArray, List.getElem_cons_zero, List.getElem_cons_succ, Act.put, List.setIfInBounds_toArray, List.set_cons_zero, List.set_cons_succ]
  refine wpAnyH_ready (rs := [11]) (by kernel_rfl) (by simp) ?_
  refine AllReadyH.cons rfl (fun K hK => ?_) AllReadyH.nil
  go_simp
  refine (calive_any _).mono ?_
  rintro e w4 ⟨rfl, k4⟩
  have d0 := k4.cell (p := ⟨w.heap.size, 0, none⟩) c0 (by simp)
  have d1 := k4.cell (p := ⟨w.heap.size, 1, none⟩) c1 (by simp)
  try go_simp
  refine hK.out _ _ (HH.out.trans k4) (fun hHeld => ?_)
  clear hK K HH
  have HH := Lib.hid hHeld
  clear hHeld
  refine wpAnyH_take (i := 12) (v := ?_) rfl (by kernel_rfl) (by kernel_rfl) (by kernel_rfl) (fun _ _ _ h => h) (Or.inl ⟨by rfl, ?_⟩) HH.out ?_
  rotate_left 1
  first | (intro w hSw; clear hSw; go_simp; done) | (intro w hSw; clear hSw; go_simp; with_reducible rfl)
  try simp only [List.getElem_toArray, List.getElem_cons_zero, List.getElem_cons_succ, Act.put, List.setIfInBounds_toArray, List.set_cons_zero, List.set_cons_succ]
  refine wpAnyH_take (i := 13) (v := ?_) rfl (by kernel_rfl) (by kernel_rfl) (by kernel_rfl) (fun _ _ _ h => h) (Or.inl ⟨by rfl, ?_⟩) HH.out ?_
  rotate_left 1
  first | (intro w hSw; clear hSw; go_simp; done) | (intro w hSw; clear hSw; go_simp; with_reducible rfl)
  try simp only [List.getElem_toArray, List.getElem_cons_zero, List.getElem_cons_succ, Act.put, List.setIfInBounds_toArray, List.set_cons_zero, List.set_cons_succ]
  refine wpAnyH_done (by kernel_rfl) ?_ _
  have K4 := Lib.hid (K0.out.drew.trans k4)
  clear c0 c1 k4 K0
  go_wp2_with fail
  clear hx
  go_region_held (fun W => W.cell? ⟨w.heap.size, 0, none⟩ = some (.bool false) ∧ W.cell? ⟨w.heap.size, 1, none⟩ = some (.int .u64 (v : Int))) (go_keep) (first
    | (go_at_call 23; refine (HBIG.out _).mono ?_; rintro e w5 ⟨rfl, k5⟩; have e0 : w5.cell? ⟨w.heap.size, 0, none⟩ = some (.bool false) := k5.cell (by first | exact d0 | go_keep) (by simp); have e1 : w5.cell? ⟨w.heap.size, 1, none⟩ = some (.int .u64 (v : Int)) := k5.cell (by first | exact d1 | go_keep) (by simp); try have c5 := HCONV.out w5 w4.heap.size (k5.cell ((Has.new' w4 #[.int .u8 27] _ rfl).cell 0) (by simp)))
    | (go_at_call 17; refine (HALL.out _).mono ?_; rintro e w6 ⟨b2, o2, cc, rfl, ⟨q0, q1, q2, q3, q4⟩, hc, k6⟩; have e2 : w6.cell? ⟨w.heap.size, 0, none⟩ = some (.bool false) := k6.cell (by first | exact e0 | go_keep) (by simp); have e3 : w6.cell? ⟨w.heap.size, 1, none⟩ = some (.int .u64 (v : Int)) := k6.cell (by first | exact e1 | go_keep) (by simp)))
  all_goals
    have KK : Keeps [] w w6 := by
      first
        | exact (((K4.out.alloc _).drew).trans k5).trans k6
        | exact (((K4.out.drew).trans k5).alloc _).trans k6
        | exact (((K4.out.drew).alloc _).trans k5).trans k6
        | exact ((((K4.out.drew).trans k5).alloc _).drew).trans k6
        | exact ((((K4.out.drew).alloc _).drew).trans k5).trans k6
    have K6 := Lib.hid KK
    simp only [evInt, noText] at q0 q1 q2 q3 q4
    clear KK k5 k6 K4 hconvA hconvB hs2
    go_wp2_with fail
    go_quiet (fail)
    go_wp2_with fail
    go_ret
    exact ⟨rfl, K6.out.drewN _⟩

end Go.Proofs.Ytepajbimhpmpjaa
