/-
  PackinNumbers' walk: a number of two's complement.
-/
import Derived.Test.YtcmeebciolegbaaPackOne
import Derived.Test.YtcmeebciolegbaaPackNumPlain
import Derived.Deep.RegionHeld
import Derived.Deep.QuietTactic
import Derived.BigQuiet
namespace Go.Proofs.Ytcmeebciolegbaa
open Go.RowKit Go.Tru

set_option maxHeartbeats 3200000 in
set_option maxRecDepth 100000 in
theorem nums_4_p (v form : Int) (V : Nat) (h0 : 0 ≤ v) (h1 : v < 128) (HV : (V : Int) = v) (hf : (wrap64 (form.tmod 8 + 8)).tmod 8 = 4) (w : World) :
    Calls Try.prog 5 #[.int .i64 v, .int .i64 form] w fun r w' => r = .returned (.bool true) ∧ Keeps [] w w' := by
  have hs0 : Op.shift .shl .i64 1 .i64 0 = pure (.int .i64 1) := by rw [shift_shl_any _ _ _ _ (by decide)]; rfl
  have hs1 : Op.shift .shl .i64 1 .i64 7 = pure (.int .i64 128) := by rw [shift_shl_any _ _ _ _ (by decide)]; rfl
  have hs2 : Op.shift .shl .i64 (-1) .i64 7 = pure (.int .i64 (-128)) := by rw [shift_shl_any _ _ _ _ (by decide)]; rfl
  have ht1 : decide ((128 : Int) ≤ v) = false := decide_eq_false (by omega)
  have ht2 : decide (v < -128) = false := decide_eq_false (by omega)
  have ht3 : ¬ v < 0 := by omega
  have hwv : IntKind.u64.wrap v = V := by rw [HV]; simp [IntKind.wrap, IntKind.bits, IntKind.signed]; omega
  have hall := pk_num 4 V 0 (by omega) rfl (Nat.div_eq_of_lt (by omega))
  rw [if_neg (by decide), signed_pos (by simp only [Nat.reduceAdd, Nat.reduceMul, Nat.reduceSub]; omega)] at hall
  have hconv : ∀ (W : World) (g : Nat), W.cell? ⟨g, 0, none⟩ = some (.int .u8 208) → (convert 40 9 (.slice (some ⟨g, 0, none⟩) 1 1)).run Try.prog W = .ok (.string ⟨#[208]⟩) W := fun W g hg =>
    run_convert_bytes_back W 40 9 5 ⟨g, 0, none⟩ 1 [208] Try.underlying40 Try.underlying5 Try.underlying9 (fun j hj => by
      obtain rfl : j = 0 := by simp at hj; omega
      exact hg)
  have hconvA : ∀ (W : World) (t : TypeId), (convert 40 9 (.slice (some ⟨W.heap.size, 0, none⟩) 1 1)).run Try.prog (W.alloc (.cells #[.int .u8 208] t)) = .ok (.string ⟨#[208]⟩) (W.alloc (.cells #[.int .u8 208] t)) := fun W t =>
    hconv _ _ ((Has.new' W #[.int .u8 208] t rfl).cell 0)
  have hconvB : ∀ (W : World) (t : TypeId), (convert 40 9 (.slice (some ⟨W.heap.size, 0, none⟩) 1 1)).run Try.prog (W.alloc (.cells #[.int .u8 208] t)).drew = .ok (.string ⟨#[208]⟩) (W.alloc (.cells #[.int .u8 208] t)).drew := fun W t =>
    hconv _ _ ((Has.new' W #[.int .u8 208] t rfl).cell 0)
  have hwc : IntKind.u8.wrap (IntKind.i64.wrap 208) = 208 := by decide
  have HCONV := Lib.hid hconv
  have HBIG := Lib.hid (fun W => big_any V 1 (by omega) (by omega) W)
  have HALL := Lib.hid (fun W => packAll_one (s := ⟨#[208]⟩ ++ bytesOf (bigB V 1)) (d := 1) (W := W) (by rw [str_cons, bytesOf_sz]; simp [bigB_len]) (by rw [str_cons, bytesOf_list]; exact hall))
  have heq : ∀ W, (binOp .eql 35 (.agg #[.int .i64 2, .bool false, .int .u64 (V : Int), .string ⟨#[]⟩, .int .i64 0]) (.agg #[.int .i64 2, .bool false, .int .u64 (V : Int), .string ⟨#[]⟩, .int .i64 0])).run Try.prog W = .ok (.bool true) W := fun W => by
    have := eql_ev (evInt false (V : Int)) (evInt false (V : Int)) W
    rw [show (evInt false (V : Int)).same (evInt false (V : Int)) = true from same_iff.2 rfl] at this
    exact this
  have HWV := Lib.hid hwv
  have HVV := Lib.hid HV
  clear hconv hall h0 h1 HV
  go_enter Try.func5, Try.ntmps5
  go_wp2_with fail
  refine (palive_any w).mono ?_
  rintro e w1 ⟨rfl, k1⟩
  have K1 := Lib.hid k1
  clear k1
  go_wp2_with fail
  clear hs0 hs1 hs2 ht1 ht2
  go_region_held (fun _ => True) (trivial) ((go_at_call 15; refine (HBIG.out _).mono ?_; rintro e w4 ⟨rfl, k4⟩; try have c4 := HCONV.out w4 w1.heap.size (k4.cell ((Has.new' w1 #[.int .u8 208] _ rfl).cell 0) (by simp))))
  all_goals
    go_wp2_with fail
    refine (HALL.out _).mono ?_
    rintro e w6 ⟨b2, o2, cc, rfl, ⟨q0, q1, q2, q3, q4⟩, hc, k6⟩
    have KK : Keeps [] w w6 := by
      first
        | exact (((K1.out.alloc _).drew).trans k4).trans k6
        | exact (((K1.out.drew).trans k4).alloc _).trans k6
        | exact (((K1.out.drew).alloc _).trans k4).trans k6
        | exact ((((K1.out.drew).trans k4).alloc _).drew).trans k6
        | exact ((((K1.out.drew).alloc _).drew).trans k4).trans k6
    have K6 := Lib.hid KK
    simp only [evInt, noText] at q0 q1 q2 q3 q4
    have hb2 := World.block_lt_of_cell? w6 _ q0
    clear KK k4 k6 K1 hconvA hconvB hwc HCONV HBIG HALL
    go_wp2_with fail
    go_quiet (fail)
    go_wp2_with fail
    go_ret
    exact ⟨rfl, (K6.out.alloc _).drewN _⟩

set_option maxHeartbeats 3200000 in
set_option maxRecDepth 100000 in
theorem nums_4_n (v form : Int) (V : Nat) (h0 : -128 ≤ v) (h1 : v < 0) (HV : (V : Int) = 18446744073709551616 + v) (hf : (wrap64 (form.tmod 8 + 8)).tmod 8 = 4) (w : World) :
    Calls Try.prog 5 #[.int .i64 v, .int .i64 form] w fun r w' => r = .returned (.bool true) ∧ Keeps [] w w' := by
  have hs0 : Op.shift .shl .i64 1 .i64 0 = pure (.int .i64 1) := by rw [shift_shl_any _ _ _ _ (by decide)]; rfl
  have hs1 : Op.shift .shl .i64 1 .i64 7 = pure (.int .i64 128) := by rw [shift_shl_any _ _ _ _ (by decide)]; rfl
  have hs2 : Op.shift .shl .i64 (-1) .i64 7 = pure (.int .i64 (-128)) := by rw [shift_shl_any _ _ _ _ (by decide)]; rfl
  have ht1 : decide ((128 : Int) ≤ v) = false := decide_eq_false (by omega)
  have ht2 : decide (v < -128) = false := decide_eq_false (by omega)
  have ht3 : v < 0 := by omega
  have hwm : IntKind.u64.wrap (wrap64 (-1 - v)) = -1 - v := by simp [IntKind.wrap, IntKind.bits, IntKind.signed, wrap64]; omega
  have hwv : IntKind.u64.wrap v = V := by rw [HV]; simp [IntKind.wrap, IntKind.bits, IntKind.signed]; omega
  have hmod : ((V % 256 ^ 1 : Nat) : Int) = 2 ^ (8 * 1) + v := by simp only [Nat.reducePow, Nat.reduceMul, Int.reducePow]; omega
  have hall := pk_num 4 (V % 256 ^ 1) 0 (by omega) rfl (Nat.div_eq_of_lt (by simp only [Nat.reducePow, Nat.reduceAdd]; omega))
  rw [if_neg (by decide), signed_neg (n := 1) (v := v) (by simp only [Nat.reduceMul, Nat.reduceSub, Int.reducePow] at hmod ⊢; omega) hmod] at hall
  rw [bigB_mod V 1 1 (Nat.le_refl _)] at hall
  have hconv : ∀ (W : World) (g : Nat), W.cell? ⟨g, 0, none⟩ = some (.int .u8 208) → (convert 40 9 (.slice (some ⟨g, 0, none⟩) 1 1)).run Try.prog W = .ok (.string ⟨#[208]⟩) W := fun W g hg =>
    run_convert_bytes_back W 40 9 5 ⟨g, 0, none⟩ 1 [208] Try.underlying40 Try.underlying5 Try.underlying9 (fun j hj => by
      obtain rfl : j = 0 := by simp at hj; omega
      exact hg)
  have hconvA : ∀ (W : World) (t : TypeId), (convert 40 9 (.slice (some ⟨W.heap.size, 0, none⟩) 1 1)).run Try.prog (W.alloc (.cells #[.int .u8 208] t)) = .ok (.string ⟨#[208]⟩) (W.alloc (.cells #[.int .u8 208] t)) := fun W t =>
    hconv _ _ ((Has.new' W #[.int .u8 208] t rfl).cell 0)
  have hconvB : ∀ (W : World) (t : TypeId), (convert 40 9 (.slice (some ⟨W.heap.size, 0, none⟩) 1 1)).run Try.prog (W.alloc (.cells #[.int .u8 208] t)).drew = .ok (.string ⟨#[208]⟩) (W.alloc (.cells #[.int .u8 208] t)).drew := fun W t =>
    hconv _ _ ((Has.new' W #[.int .u8 208] t rfl).cell 0)
  have hwc : IntKind.u8.wrap (IntKind.i64.wrap 208) = 208 := by decide
  have HCONV := Lib.hid hconv
  have HBIG := Lib.hid (fun W => big_any V 1 (by omega) (by omega) W)
  have HALL := Lib.hid (fun W => packAll_one (s := ⟨#[208]⟩ ++ bytesOf (bigB V 1)) (d := 1) (W := W) (by rw [str_cons, bytesOf_sz]; simp [bigB_len]) (by rw [str_cons, bytesOf_list]; exact hall))
  have heq : ∀ W, (binOp .eql 35 (.agg #[.int .i64 2, .bool true, .int .u64 (-1 - v), .string ⟨#[]⟩, .int .i64 0]) (.agg #[.int .i64 2, .bool true, .int .u64 (-1 - v), .string ⟨#[]⟩, .int .i64 0])).run Try.prog W = .ok (.bool true) W := fun W => by
    have := eql_ev (evInt true (-1 - v)) (evInt true (-1 - v)) W
    rw [show (evInt true (-1 - v)).same (evInt true (-1 - v)) = true from same_iff.2 rfl] at this
    exact this
  have HWV := Lib.hid hwv
  have HVV := Lib.hid HV
  clear hconv hall h0 h1 HV hmod
  go_enter Try.func5, Try.ntmps5
  go_wp2_with fail
  refine (palive_any w).mono ?_
  rintro e w1 ⟨rfl, k1⟩
  have K1 := Lib.hid k1
  clear k1
  go_wp2_with fail
  clear hs0 hs1 hs2 ht1 ht2
  go_region_held (fun _ => True) (trivial) ((go_at_call 15; refine (HBIG.out _).mono ?_; rintro e w4 ⟨rfl, k4⟩; try have c4 := HCONV.out w4 w1.heap.size (k4.cell ((Has.new' w1 #[.int .u8 208] _ rfl).cell 0) (by simp))))
  all_goals
    go_wp2_with fail
    refine (HALL.out _).mono ?_
    rintro e w6 ⟨b2, o2, cc, rfl, ⟨q0, q1, q2, q3, q4⟩, hc, k6⟩
    have KK : Keeps [] w w6 := by
      first
        | exact (((K1.out.alloc _).drew).trans k4).trans k6
        | exact (((K1.out.drew).trans k4).alloc _).trans k6
        | exact (((K1.out.drew).alloc _).trans k4).trans k6
        | exact ((((K1.out.drew).trans k4).alloc _).drew).trans k6
        | exact ((((K1.out.drew).alloc _).drew).trans k4).trans k6
    have K6 := Lib.hid KK
    simp only [evInt, noText] at q0 q1 q2 q3 q4
    have hb2 := World.block_lt_of_cell? w6 _ q0
    clear KK k4 k6 K1 hconvA hconvB hwc HCONV HBIG HALL
    go_wp2_with fail
    go_quiet (fail)
    go_wp2_with fail
    go_ret
    exact ⟨rfl, (K6.out.alloc _).drewN _⟩

set_option maxHeartbeats 3200000 in
set_option maxRecDepth 100000 in
theorem nums_5_p (v form : Int) (V : Nat) (h0 : 0 ≤ v) (h1 : v < 32768) (HV : (V : Int) = v) (hf : (wrap64 (form.tmod 8 + 8)).tmod 8 = 5) (w : World) :
    Calls Try.prog 5 #[.int .i64 v, .int .i64 form] w fun r w' => r = .returned (.bool true) ∧ Keeps [] w w' := by
  have hs0 : Op.shift .shl .i64 1 .i64 1 = pure (.int .i64 2) := by rw [shift_shl_any _ _ _ _ (by decide)]; rfl
  have hs1 : Op.shift .shl .i64 1 .i64 15 = pure (.int .i64 32768) := by rw [shift_shl_any _ _ _ _ (by decide)]; rfl
  have hs2 : Op.shift .shl .i64 (-1) .i64 15 = pure (.int .i64 (-32768)) := by rw [shift_shl_any _ _ _ _ (by decide)]; rfl
  have ht1 : decide ((32768 : Int) ≤ v) = false := decide_eq_false (by omega)
  have ht2 : decide (v < -32768) = false := decide_eq_false (by omega)
  have ht3 : ¬ v < 0 := by omega
  have hwv : IntKind.u64.wrap v = V := by rw [HV]; simp [IntKind.wrap, IntKind.bits, IntKind.signed]; omega
  have hall := pk_num 5 V 1 (by omega) rfl (Nat.div_eq_of_lt (by omega))
  rw [if_neg (by decide), signed_pos (by simp only [Nat.reduceAdd, Nat.reduceMul, Nat.reduceSub]; omega)] at hall
  have hconv : ∀ (W : World) (g : Nat), W.cell? ⟨g, 0, none⟩ = some (.int .u8 209) → (convert 40 9 (.slice (some ⟨g, 0, none⟩) 1 1)).run Try.prog W = .ok (.string ⟨#[209]⟩) W := fun W g hg =>
    run_convert_bytes_back W 40 9 5 ⟨g, 0, none⟩ 1 [209] Try.underlying40 Try.underlying5 Try.underlying9 (fun j hj => by
      obtain rfl : j = 0 := by simp at hj; omega
      exact hg)
  have hconvA : ∀ (W : World) (t : TypeId), (convert 40 9 (.slice (some ⟨W.heap.size, 0, none⟩) 1 1)).run Try.prog (W.alloc (.cells #[.int .u8 209] t)) = .ok (.string ⟨#[209]⟩) (W.alloc (.cells #[.int .u8 209] t)) := fun W t =>
    hconv _ _ ((Has.new' W #[.int .u8 209] t rfl).cell 0)
  have hconvB : ∀ (W : World) (t : TypeId), (convert 40 9 (.slice (some ⟨W.heap.size, 0, none⟩) 1 1)).run Try.prog (W.alloc (.cells #[.int .u8 209] t)).drew = .ok (.string ⟨#[209]⟩) (W.alloc (.cells #[.int .u8 209] t)).drew := fun W t =>
    hconv _ _ ((Has.new' W #[.int .u8 209] t rfl).cell 0)
  have hwc : IntKind.u8.wrap (IntKind.i64.wrap 209) = 209 := by decide
  have HCONV := Lib.hid hconv
  have HBIG := Lib.hid (fun W => big_any V 2 (by omega) (by omega) W)
  have HALL := Lib.hid (fun W => packAll_one (s := ⟨#[209]⟩ ++ bytesOf (bigB V 2)) (d := 1) (W := W) (by rw [str_cons, bytesOf_sz]; simp [bigB_len]) (by rw [str_cons, bytesOf_list]; exact hall))
  have heq : ∀ W, (binOp .eql 35 (.agg #[.int .i64 2, .bool false, .int .u64 (V : Int), .string ⟨#[]⟩, .int .i64 0]) (.agg #[.int .i64 2, .bool false, .int .u64 (V : Int), .string ⟨#[]⟩, .int .i64 0])).run Try.prog W = .ok (.bool true) W := fun W => by
    have := eql_ev (evInt false (V : Int)) (evInt false (V : Int)) W
    rw [show (evInt false (V : Int)).same (evInt false (V : Int)) = true from same_iff.2 rfl] at this
    exact this
  have HWV := Lib.hid hwv
  have HVV := Lib.hid HV
  clear hconv hall h0 h1 HV
  go_enter Try.func5, Try.ntmps5
  go_wp2_with fail
  refine (palive_any w).mono ?_
  rintro e w1 ⟨rfl, k1⟩
  have K1 := Lib.hid k1
  clear k1
  go_wp2_with fail
  clear hs0 hs1 hs2 ht1 ht2
  go_region_held (fun _ => True) (trivial) ((go_at_call 15; refine (HBIG.out _).mono ?_; rintro e w4 ⟨rfl, k4⟩; try have c4 := HCONV.out w4 w1.heap.size (k4.cell ((Has.new' w1 #[.int .u8 209] _ rfl).cell 0) (by simp))))
  all_goals
    go_wp2_with fail
    refine (HALL.out _).mono ?_
    rintro e w6 ⟨b2, o2, cc, rfl, ⟨q0, q1, q2, q3, q4⟩, hc, k6⟩
    have KK : Keeps [] w w6 := by
      first
        | exact (((K1.out.alloc _).drew).trans k4).trans k6
        | exact (((K1.out.drew).trans k4).alloc _).trans k6
        | exact (((K1.out.drew).alloc _).trans k4).trans k6
        | exact ((((K1.out.drew).trans k4).alloc _).drew).trans k6
        | exact ((((K1.out.drew).alloc _).drew).trans k4).trans k6
    have K6 := Lib.hid KK
    simp only [evInt, noText] at q0 q1 q2 q3 q4
    have hb2 := World.block_lt_of_cell? w6 _ q0
    clear KK k4 k6 K1 hconvA hconvB hwc HCONV HBIG HALL
    go_wp2_with fail
    go_quiet (fail)
    go_wp2_with fail
    go_ret
    exact ⟨rfl, (K6.out.alloc _).drewN _⟩

set_option maxHeartbeats 3200000 in
set_option maxRecDepth 100000 in
theorem nums_5_n (v form : Int) (V : Nat) (h0 : -32768 ≤ v) (h1 : v < 0) (HV : (V : Int) = 18446744073709551616 + v) (hf : (wrap64 (form.tmod 8 + 8)).tmod 8 = 5) (w : World) :
    Calls Try.prog 5 #[.int .i64 v, .int .i64 form] w fun r w' => r = .returned (.bool true) ∧ Keeps [] w w' := by
  have hs0 : Op.shift .shl .i64 1 .i64 1 = pure (.int .i64 2) := by rw [shift_shl_any _ _ _ _ (by decide)]; rfl
  have hs1 : Op.shift .shl .i64 1 .i64 15 = pure (.int .i64 32768) := by rw [shift_shl_any _ _ _ _ (by decide)]; rfl
  have hs2 : Op.shift .shl .i64 (-1) .i64 15 = pure (.int .i64 (-32768)) := by rw [shift_shl_any _ _ _ _ (by decide)]; rfl
  have ht1 : decide ((32768 : Int) ≤ v) = false := decide_eq_false (by omega)
  have ht2 : decide (v < -32768) = false := decide_eq_false (by omega)
  have ht3 : v < 0 := by omega
  have hwm : IntKind.u64.wrap (wrap64 (-1 - v)) = -1 - v := by simp [IntKind.wrap, IntKind.bits, IntKind.signed, wrap64]; omega
  have hwv : IntKind.u64.wrap v = V := by rw [HV]; simp [IntKind.wrap, IntKind.bits, IntKind.signed]; omega
  have hmod : ((V % 256 ^ 2 : Nat) : Int) = 2 ^ (8 * 2) + v := by simp only [Nat.reducePow, Nat.reduceMul, Int.reducePow]; omega
  have hall := pk_num 5 (V % 256 ^ 2) 1 (by omega) rfl (Nat.div_eq_of_lt (by simp only [Nat.reducePow, Nat.reduceAdd]; omega))
  rw [if_neg (by decide), signed_neg (n := 2) (v := v) (by simp only [Nat.reduceMul, Nat.reduceSub, Int.reducePow] at hmod ⊢; omega) hmod] at hall
  rw [bigB_mod V 2 2 (Nat.le_refl _)] at hall
  have hconv : ∀ (W : World) (g : Nat), W.cell? ⟨g, 0, none⟩ = some (.int .u8 209) → (convert 40 9 (.slice (some ⟨g, 0, none⟩) 1 1)).run Try.prog W = .ok (.string ⟨#[209]⟩) W := fun W g hg =>
    run_convert_bytes_back W 40 9 5 ⟨g, 0, none⟩ 1 [209] Try.underlying40 Try.underlying5 Try.underlying9 (fun j hj => by
      obtain rfl : j = 0 := by simp at hj; omega
      exact hg)
  have hconvA : ∀ (W : World) (t : TypeId), (convert 40 9 (.slice (some ⟨W.heap.size, 0, none⟩) 1 1)).run Try.prog (W.alloc (.cells #[.int .u8 209] t)) = .ok (.string ⟨#[209]⟩) (W.alloc (.cells #[.int .u8 209] t)) := fun W t =>
    hconv _ _ ((Has.new' W #[.int .u8 209] t rfl).cell 0)
  have hconvB : ∀ (W : World) (t : TypeId), (convert 40 9 (.slice (some ⟨W.heap.size, 0, none⟩) 1 1)).run Try.prog (W.alloc (.cells #[.int .u8 209] t)).drew = .ok (.string ⟨#[209]⟩) (W.alloc (.cells #[.int .u8 209] t)).drew := fun W t =>
    hconv _ _ ((Has.new' W #[.int .u8 209] t rfl).cell 0)
  have hwc : IntKind.u8.wrap (IntKind.i64.wrap 209) = 209 := by decide
  have HCONV := Lib.hid hconv
  have HBIG := Lib.hid (fun W => big_any V 2 (by omega) (by omega) W)
  have HALL := Lib.hid (fun W => packAll_one (s := ⟨#[209]⟩ ++ bytesOf (bigB V 2)) (d := 1) (W := W) (by rw [str_cons, bytesOf_sz]; simp [bigB_len]) (by rw [str_cons, bytesOf_list]; exact hall))
  have heq : ∀ W, (binOp .eql 35 (.agg #[.int .i64 2, .bool true, .int .u64 (-1 - v), .string ⟨#[]⟩, .int .i64 0]) (.agg #[.int .i64 2, .bool true, .int .u64 (-1 - v), .string ⟨#[]⟩, .int .i64 0])).run Try.prog W = .ok (.bool true) W := fun W => by
    have := eql_ev (evInt true (-1 - v)) (evInt true (-1 - v)) W
    rw [show (evInt true (-1 - v)).same (evInt true (-1 - v)) = true from same_iff.2 rfl] at this
    exact this
  have HWV := Lib.hid hwv
  have HVV := Lib.hid HV
  clear hconv hall h0 h1 HV hmod
  go_enter Try.func5, Try.ntmps5
  go_wp2_with fail
  refine (palive_any w).mono ?_
  rintro e w1 ⟨rfl, k1⟩
  have K1 := Lib.hid k1
  clear k1
  go_wp2_with fail
  clear hs0 hs1 hs2 ht1 ht2
  go_region_held (fun _ => True) (trivial) ((go_at_call 15; refine (HBIG.out _).mono ?_; rintro e w4 ⟨rfl, k4⟩; try have c4 := HCONV.out w4 w1.heap.size (k4.cell ((Has.new' w1 #[.int .u8 209] _ rfl).cell 0) (by simp))))
  all_goals
    go_wp2_with fail
    refine (HALL.out _).mono ?_
    rintro e w6 ⟨b2, o2, cc, rfl, ⟨q0, q1, q2, q3, q4⟩, hc, k6⟩
    have KK : Keeps [] w w6 := by
      first
        | exact (((K1.out.alloc _).drew).trans k4).trans k6
        | exact (((K1.out.drew).trans k4).alloc _).trans k6
        | exact (((K1.out.drew).alloc _).trans k4).trans k6
        | exact ((((K1.out.drew).trans k4).alloc _).drew).trans k6
        | exact ((((K1.out.drew).alloc _).drew).trans k4).trans k6
    have K6 := Lib.hid KK
    simp only [evInt, noText] at q0 q1 q2 q3 q4
    have hb2 := World.block_lt_of_cell? w6 _ q0
    clear KK k4 k6 K1 hconvA hconvB hwc HCONV HBIG HALL
    go_wp2_with fail
    go_quiet (fail)
    go_wp2_with fail
    go_ret
    exact ⟨rfl, (K6.out.alloc _).drewN _⟩

end Go.Proofs.Ytcmeebciolegbaa
