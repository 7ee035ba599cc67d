/-
  PackinNumbers' walk: a number without a sign.
-/
import Derived.Test.YtcmeebciolegbaaPackOne
import Derived.Test.YtcmeebciolegbaaPackNumPlain
import Derived.Deep.RegionHeld
import Derived.Deep.QuietTactic
import Derived.BigQuiet
namespace Go.Proofs.Ytcmeebciolegbaa
open Go.RowKit Go.Tru

set_option maxHeartbeats 3200000 in
set_option maxRecDepth 100000 in
theorem nums_0_p (v form : Int) (V : Nat) (h0 : 0 ≤ v) (h1 : v < 256) (HV : (V : Int) = v) (hf : (wrap64 (form.tmod 8 + 8)).tmod 8 = 0) (w : World) :
    Calls Try.prog 5 #[.int .i64 v, .int .i64 form] w fun r w' => r = .returned (.bool true) ∧ Keeps [] w w' := by
  have hs0 : Op.shift .shl .i64 1 .i64 0 = pure (.int .i64 1) := by rw [shift_shl_any _ _ _ _ (by decide)]; rfl
  have hs1 : Op.shift .shl .i64 1 .i64 8 = pure (.int .i64 256) := by rw [shift_shl_any _ _ _ _ (by decide)]; rfl
  have ht1 : decide (v < 0) = false := decide_eq_false (by omega)
  have ht2 : decide ((256 : Int) ≤ v) = false := decide_eq_false (by omega)
  have ht3 : ¬ v < 0 := by omega
  have hwv : IntKind.u64.wrap v = V := by rw [HV]; simp [IntKind.wrap, IntKind.bits, IntKind.signed]; omega
  have hall := pk_num 0 V 0 (by omega) rfl (Nat.div_eq_of_lt (by omega))
  rw [if_pos (by decide)] at hall
  have hconv : ∀ (W : World) (g : Nat), W.cell? ⟨g, 0, none⟩ = some (.int .u8 204) → (convert 40 9 (.slice (some ⟨g, 0, none⟩) 1 1)).run Try.prog W = .ok (.string ⟨#[204]⟩) W := fun W g hg =>
    run_convert_bytes_back W 40 9 5 ⟨g, 0, none⟩ 1 [204] Try.underlying40 Try.underlying5 Try.underlying9 (fun j hj => by
      obtain rfl : j = 0 := by simp at hj; omega
      exact hg)
  have hconvA : ∀ (W : World) (t : TypeId), (convert 40 9 (.slice (some ⟨W.heap.size, 0, none⟩) 1 1)).run Try.prog (W.alloc (.cells #[.int .u8 204] t)) = .ok (.string ⟨#[204]⟩) (W.alloc (.cells #[.int .u8 204] t)) := fun W t =>
    hconv _ _ ((Has.new' W #[.int .u8 204] t rfl).cell 0)
  have hconvB : ∀ (W : World) (t : TypeId), (convert 40 9 (.slice (some ⟨W.heap.size, 0, none⟩) 1 1)).run Try.prog (W.alloc (.cells #[.int .u8 204] t)).drew = .ok (.string ⟨#[204]⟩) (W.alloc (.cells #[.int .u8 204] t)).drew := fun W t =>
    hconv _ _ ((Has.new' W #[.int .u8 204] t rfl).cell 0)
  have hwc : IntKind.u8.wrap (IntKind.i64.wrap 204) = 204 := by decide
  have HCONV := Lib.hid hconv
  have HBIG := Lib.hid (fun W => big_any V 1 (by omega) (by omega) W)
  have HALL := Lib.hid (fun W => packAll_one (s := ⟨#[204]⟩ ++ bytesOf (bigB V 1)) (d := 1) (W := W) (by rw [str_cons, bytesOf_sz]; simp [bigB_len]) (by rw [str_cons, bytesOf_list]; exact hall))
  have heq : ∀ W, (binOp .eql 35 (.agg #[.int .i64 2, .bool false, .int .u64 (V : Int), .string ⟨#[]⟩, .int .i64 0]) (.agg #[.int .i64 2, .bool false, .int .u64 (V : Int), .string ⟨#[]⟩, .int .i64 0])).run Try.prog W = .ok (.bool true) W := fun W => by
    have := eql_ev (evInt false (V : Int)) (evInt false (V : Int)) W
    rw [show (evInt false (V : Int)).same (evInt false (V : Int)) = true from same_iff.2 rfl] at this
    exact this
  have HWV := Lib.hid hwv
  have HVV := Lib.hid HV
  clear hconv hall h0 h1 HV
  go_enter Try.func5, Try.ntmps5
  go_wp2_with fail
  refine (palive_any w).mono ?_
  rintro e w1 ⟨rfl, k1⟩
  have K1 := Lib.hid k1
  clear k1
  go_wp2_with fail
  clear hs0 hs1 ht1 ht2
  go_region_held (fun _ => True) (trivial) ((go_at_call 15; refine (HBIG.out _).mono ?_; rintro e w4 ⟨rfl, k4⟩; try have c4 := HCONV.out w4 w1.heap.size (k4.cell ((Has.new' w1 #[.int .u8 204] _ rfl).cell 0) (by simp))))
  all_goals
    go_wp2_with fail
    refine (HALL.out _).mono ?_
    rintro e w6 ⟨b2, o2, cc, rfl, ⟨q0, q1, q2, q3, q4⟩, hc, k6⟩
    have KK : Keeps [] w w6 := by
      first
        | exact (((K1.out.alloc _).drew).trans k4).trans k6
        | exact (((K1.out.drew).trans k4).alloc _).trans k6
        | exact (((K1.out.drew).alloc _).trans k4).trans k6
        | exact ((((K1.out.drew).trans k4).alloc _).drew).trans k6
        | exact ((((K1.out.drew).alloc _).drew).trans k4).trans k6
    have K6 := Lib.hid KK
    simp only [evInt, noText] at q0 q1 q2 q3 q4
    have hb2 := World.block_lt_of_cell? w6 _ q0
    clear KK k4 k6 K1 hconvA hconvB hwc HCONV HBIG HALL
    go_wp2_with fail
    go_quiet (fail)
    go_wp2_with fail
    go_ret
    exact ⟨rfl, (K6.out.alloc _).drewN _⟩

set_option maxHeartbeats 3200000 in
set_option maxRecDepth 100000 in
theorem nums_1_p (v form : Int) (V : Nat) (h0 : 0 ≤ v) (h1 : v < 65536) (HV : (V : Int) = v) (hf : (wrap64 (form.tmod 8 + 8)).tmod 8 = 1) (w : World) :
    Calls Try.prog 5 #[.int .i64 v, .int .i64 form] w fun r w' => r = .returned (.bool true) ∧ Keeps [] w w' := by
  have hs0 : Op.shift .shl .i64 1 .i64 1 = pure (.int .i64 2) := by rw [shift_shl_any _ _ _ _ (by decide)]; rfl
  have hs1 : Op.shift .shl .i64 1 .i64 16 = pure (.int .i64 65536) := by rw [shift_shl_any _ _ _ _ (by decide)]; rfl
  have ht1 : decide (v < 0) = false := decide_eq_false (by omega)
  have ht2 : decide ((65536 : Int) ≤ v) = false := decide_eq_false (by omega)
  have ht3 : ¬ v < 0 := by omega
  have hwv : IntKind.u64.wrap v = V := by rw [HV]; simp [IntKind.wrap, IntKind.bits, IntKind.signed]; omega
  have hall := pk_num 1 V 1 (by omega) rfl (Nat.div_eq_of_lt (by omega))
  rw [if_pos (by decide)] at hall
  have hconv : ∀ (W : World) (g : Nat), W.cell? ⟨g, 0, none⟩ = some (.int .u8 205) → (convert 40 9 (.slice (some ⟨g, 0, none⟩) 1 1)).run Try.prog W = .ok (.string ⟨#[205]⟩) W := fun W g hg =>
    run_convert_bytes_back W 40 9 5 ⟨g, 0, none⟩ 1 [205] Try.underlying40 Try.underlying5 Try.underlying9 (fun j hj => by
      obtain rfl : j = 0 := by simp at hj; omega
      exact hg)
  have hconvA : ∀ (W : World) (t : TypeId), (convert 40 9 (.slice (some ⟨W.heap.size, 0, none⟩) 1 1)).run Try.prog (W.alloc (.cells #[.int .u8 205] t)) = .ok (.string ⟨#[205]⟩) (W.alloc (.cells #[.int .u8 205] t)) := fun W t =>
    hconv _ _ ((Has.new' W #[.int .u8 205] t rfl).cell 0)
  have hconvB : ∀ (W : World) (t : TypeId), (convert 40 9 (.slice (some ⟨W.heap.size, 0, none⟩) 1 1)).run Try.prog (W.alloc (.cells #[.int .u8 205] t)).drew = .ok (.string ⟨#[205]⟩) (W.alloc (.cells #[.int .u8 205] t)).drew := fun W t =>
    hconv _ _ ((Has.new' W #[.int .u8 205] t rfl).cell 0)
  have hwc : IntKind.u8.wrap (IntKind.i64.wrap 205) = 205 := by decide
  have HCONV := Lib.hid hconv
  have HBIG := Lib.hid (fun W => big_any V 2 (by omega) (by omega) W)
  have HALL := Lib.hid (fun W => packAll_one (s := ⟨#[205]⟩ ++ bytesOf (bigB V 2)) (d := 1) (W := W) (by rw [str_cons, bytesOf_sz]; simp [bigB_len]) (by rw [str_cons, bytesOf_list]; exact hall))
  have heq : ∀ W, (binOp .eql 35 (.agg #[.int .i64 2, .bool false, .int .u64 (V : Int), .string ⟨#[]⟩, .int .i64 0]) (.agg #[.int .i64 2, .bool false, .int .u64 (V : Int), .string ⟨#[]⟩, .int .i64 0])).run Try.prog W = .ok (.bool true) W := fun W => by
    have := eql_ev (evInt false (V : Int)) (evInt false (V : Int)) W
    rw [show (evInt false (V : Int)).same (evInt false (V : Int)) = true from same_iff.2 rfl] at this
    exact this
  have HWV := Lib.hid hwv
  have HVV := Lib.hid HV
  clear hconv hall h0 h1 HV
  go_enter Try.func5, Try.ntmps5
  go_wp2_with fail
  refine (palive_any w).mono ?_
  rintro e w1 ⟨rfl, k1⟩
  have K1 := Lib.hid k1
  clear k1
  go_wp2_with fail
  clear hs0 hs1 ht1 ht2
  go_region_held (fun _ => True) (trivial) ((go_at_call 15; refine (HBIG.out _).mono ?_; rintro e w4 ⟨rfl, k4⟩; try have c4 := HCONV.out w4 w1.heap.size (k4.cell ((Has.new' w1 #[.int .u8 205] _ rfl).cell 0) (by simp))))
  all_goals
    go_wp2_with fail
    refine (HALL.out _).mono ?_
    rintro e w6 ⟨b2, o2, cc, rfl, ⟨q0, q1, q2, q3, q4⟩, hc, k6⟩
    have KK : Keeps [] w w6 := by
      first
        | exact (((K1.out.alloc _).drew).trans k4).trans k6
        | exact (((K1.out.drew).trans k4).alloc _).trans k6
        | exact (((K1.out.drew).alloc _).trans k4).trans k6
        | exact ((((K1.out.drew).trans k4).alloc _).drew).trans k6
        | exact ((((K1.out.drew).alloc _).drew).trans k4).trans k6
    have K6 := Lib.hid KK
    simp only [evInt, noText] at q0 q1 q2 q3 q4
    have hb2 := World.block_lt_of_cell? w6 _ q0
    clear KK k4 k6 K1 hconvA hconvB hwc HCONV HBIG HALL
    go_wp2_with fail
    go_quiet (fail)
    go_wp2_with fail
    go_ret
    exact ⟨rfl, (K6.out.alloc _).drewN _⟩

set_option maxHeartbeats 3200000 in
set_option maxRecDepth 100000 in
theorem nums_2_p (v form : Int) (V : Nat) (h0 : 0 ≤ v) (h1 : v < 4294967296) (HV : (V : Int) = v) (hf : (wrap64 (form.tmod 8 + 8)).tmod 8 = 2) (w : World) :
    Calls Try.prog 5 #[.int .i64 v, .int .i64 form] w fun r w' => r = .returned (.bool true) ∧ Keeps [] w w' := by
  have hs0 : Op.shift .shl .i64 1 .i64 2 = pure (.int .i64 4) := by rw [shift_shl_any _ _ _ _ (by decide)]; rfl
  have hs1 : Op.shift .shl .i64 1 .i64 32 = pure (.int .i64 4294967296) := by rw [shift_shl_any _ _ _ _ (by decide)]; rfl
  have ht1 : decide (v < 0) = false := decide_eq_false (by omega)
  have ht2 : decide ((4294967296 : Int) ≤ v) = false := decide_eq_false (by omega)
  have ht3 : ¬ v < 0 := by omega
  have hwv : IntKind.u64.wrap v = V := by rw [HV]; simp [IntKind.wrap, IntKind.bits, IntKind.signed]; omega
  have hall := pk_num 2 V 3 (by omega) rfl (Nat.div_eq_of_lt (by omega))
  rw [if_pos (by decide)] at hall
  have hconv : ∀ (W : World) (g : Nat), W.cell? ⟨g, 0, none⟩ = some (.int .u8 206) → (convert 40 9 (.slice (some ⟨g, 0, none⟩) 1 1)).run Try.prog W = .ok (.string ⟨#[206]⟩) W := fun W g hg =>
    run_convert_bytes_back W 40 9 5 ⟨g, 0, none⟩ 1 [206] Try.underlying40 Try.underlying5 Try.underlying9 (fun j hj => by
      obtain rfl : j = 0 := by simp at hj; omega
      exact hg)
  have hconvA : ∀ (W : World) (t : TypeId), (convert 40 9 (.slice (some ⟨W.heap.size, 0, none⟩) 1 1)).run Try.prog (W.alloc (.cells #[.int .u8 206] t)) = .ok (.string ⟨#[206]⟩) (W.alloc (.cells #[.int .u8 206] t)) := fun W t =>
    hconv _ _ ((Has.new' W #[.int .u8 206] t rfl).cell 0)
  have hconvB : ∀ (W : World) (t : TypeId), (convert 40 9 (.slice (some ⟨W.heap.size, 0, none⟩) 1 1)).run Try.prog (W.alloc (.cells #[.int .u8 206] t)).drew = .ok (.string ⟨#[206]⟩) (W.alloc (.cells #[.int .u8 206] t)).drew := fun W t =>
    hconv _ _ ((Has.new' W #[.int .u8 206] t rfl).cell 0)
  have hwc : IntKind.u8.wrap (IntKind.i64.wrap 206) = 206 := by decide
  have HCONV := Lib.hid hconv
  have HBIG := Lib.hid (fun W => big_any V 4 (by omega) (by omega) W)
  have HALL := Lib.hid (fun W => packAll_one (s := ⟨#[206]⟩ ++ bytesOf (bigB V 4)) (d := 1) (W := W) (by rw [str_cons, bytesOf_sz]; simp [bigB_len]) (by rw [str_cons, bytesOf_list]; exact hall))
  have heq : ∀ W, (binOp .eql 35 (.agg #[.int .i64 2, .bool false, .int .u64 (V : Int), .string ⟨#[]⟩, .int .i64 0]) (.agg #[.int .i64 2, .bool false, .int .u64 (V : Int), .string ⟨#[]⟩, .int .i64 0])).run Try.prog W = .ok (.bool true) W := fun W => by
    have := eql_ev (evInt false (V : Int)) (evInt false (V : Int)) W
    rw [show (evInt false (V : Int)).same (evInt false (V : Int)) = true from same_iff.2 rfl] at this
    exact this
  have HWV := Lib.hid hwv
  have HVV := Lib.hid HV
  clear hconv hall h0 h1 HV
  go_enter Try.func5, Try.ntmps5
  go_wp2_with fail
  refine (palive_any w).mono ?_
  rintro e w1 ⟨rfl, k1⟩
  have K1 := Lib.hid k1
  clear k1
  go_wp2_with fail
  clear hs0 hs1 ht1 ht2
  go_region_held (fun _ => True) (trivial) ((go_at_call 15; refine (HBIG.out _).mono ?_; rintro e w4 ⟨rfl, k4⟩; try have c4 := HCONV.out w4 w1.heap.size (k4.cell ((Has.new' w1 #[.int .u8 206] _ rfl).cell 0) (by simp))))
  all_goals
    go_wp2_with fail
    refine (HALL.out _).mono ?_
    rintro e w6 ⟨b2, o2, cc, rfl, ⟨q0, q1, q2, q3, q4⟩, hc, k6⟩
    have KK : Keeps [] w w6 := by
      first
        | exact (((K1.out.alloc _).drew).trans k4).trans k6
        | exact (((K1.out.drew).trans k4).alloc _).trans k6
        | exact (((K1.out.drew).alloc _).trans k4).trans k6
        | exact ((((K1.out.drew).trans k4).alloc _).drew).trans k6
        | exact ((((K1.out.drew).alloc _).drew).trans k4).trans k6
    have K6 := Lib.hid KK
    simp only [evInt, noText] at q0 q1 q2 q3 q4
    have hb2 := World.block_lt_of_cell? w6 _ q0
    clear KK k4 k6 K1 hconvA hconvB hwc HCONV HBIG HALL
    go_wp2_with fail
    go_quiet (fail)
    go_wp2_with fail
    go_ret
    exact ⟨rfl, (K6.out.alloc _).drewN _⟩

set_option maxHeartbeats 3200000 in
set_option maxRecDepth 100000 in
theorem nums_3_p (v form : Int) (V : Nat) (h0 : 0 ≤ v) (h1 : v < 9223372036854775808) (HV : (V : Int) = v) (hf : (wrap64 (form.tmod 8 + 8)).tmod 8 = 3) (w : World) :
    Calls Try.prog 5 #[.int .i64 v, .int .i64 form] w fun r w' => r = .returned (.bool true) ∧ Keeps [] w w' := by
  have hs0 : Op.shift .shl .i64 1 .i64 3 = pure (.int .i64 8) := by rw [shift_shl_any _ _ _ _ (by decide)]; rfl
  have ht1 : decide (v < 0) = false := decide_eq_false (by omega)
  have ht3 : ¬ v < 0 := by omega
  have hwv : IntKind.u64.wrap v = V := by rw [HV]; simp [IntKind.wrap, IntKind.bits, IntKind.signed]; omega
  have hall := pk_num 3 V 7 (by omega) rfl (Nat.div_eq_of_lt (by omega))
  rw [if_pos (by decide)] at hall
  have hconv : ∀ (W : World) (g : Nat), W.cell? ⟨g, 0, none⟩ = some (.int .u8 207) → (convert 40 9 (.slice (some ⟨g, 0, none⟩) 1 1)).run Try.prog W = .ok (.string ⟨#[207]⟩) W := fun W g hg =>
    run_convert_bytes_back W 40 9 5 ⟨g, 0, none⟩ 1 [207] Try.underlying40 Try.underlying5 Try.underlying9 (fun j hj => by
      obtain rfl : j = 0 := by simp at hj; omega
      exact hg)
  have hconvA : ∀ (W : World) (t : TypeId), (convert 40 9 (.slice (some ⟨W.heap.size, 0, none⟩) 1 1)).run Try.prog (W.alloc (.cells #[.int .u8 207] t)) = .ok (.string ⟨#[207]⟩) (W.alloc (.cells #[.int .u8 207] t)) := fun W t =>
    hconv _ _ ((Has.new' W #[.int .u8 207] t rfl).cell 0)
  have hconvB : ∀ (W : World) (t : TypeId), (convert 40 9 (.slice (some ⟨W.heap.size, 0, none⟩) 1 1)).run Try.prog (W.alloc (.cells #[.int .u8 207] t)).drew = .ok (.string ⟨#[207]⟩) (W.alloc (.cells #[.int .u8 207] t)).drew := fun W t =>
    hconv _ _ ((Has.new' W #[.int .u8 207] t rfl).cell 0)
  have hwc : IntKind.u8.wrap (IntKind.i64.wrap 207) = 207 := by decide
  have HCONV := Lib.hid hconv
  have HBIG := Lib.hid (fun W => big_any V 8 (by omega) (by omega) W)
  have HALL := Lib.hid (fun W => packAll_one (s := ⟨#[207]⟩ ++ bytesOf (bigB V 8)) (d := 1) (W := W) (by rw [str_cons, bytesOf_sz]; simp [bigB_len]) (by rw [str_cons, bytesOf_list]; exact hall))
  have heq : ∀ W, (binOp .eql 35 (.agg #[.int .i64 2, .bool false, .int .u64 (V : Int), .string ⟨#[]⟩, .int .i64 0]) (.agg #[.int .i64 2, .bool false, .int .u64 (V : Int), .string ⟨#[]⟩, .int .i64 0])).run Try.prog W = .ok (.bool true) W := fun W => by
    have := eql_ev (evInt false (V : Int)) (evInt false (V : Int)) W
    rw [show (evInt false (V : Int)).same (evInt false (V : Int)) = true from same_iff.2 rfl] at this
    exact this
  have HWV := Lib.hid hwv
  have HVV := Lib.hid HV
  clear hconv hall h0 h1 HV
  go_enter Try.func5, Try.ntmps5
  go_wp2_with fail
  refine (palive_any w).mono ?_
  rintro e w1 ⟨rfl, k1⟩
  have K1 := Lib.hid k1
  clear k1
  go_wp2_with fail
  clear hs0 ht1
  go_region_held (fun _ => True) (trivial) ((go_at_call 15; refine (HBIG.out _).mono ?_; rintro e w4 ⟨rfl, k4⟩; try have c4 := HCONV.out w4 w1.heap.size (k4.cell ((Has.new' w1 #[.int .u8 207] _ rfl).cell 0) (by simp))))
  all_goals
    go_wp2_with fail
    refine (HALL.out _).mono ?_
    rintro e w6 ⟨b2, o2, cc, rfl, ⟨q0, q1, q2, q3, q4⟩, hc, k6⟩
    have KK : Keeps [] w w6 := by
      first
        | exact (((K1.out.alloc _).drew).trans k4).trans k6
        | exact (((K1.out.drew).trans k4).alloc _).trans k6
        | exact (((K1.out.drew).alloc _).trans k4).trans k6
        | exact ((((K1.out.drew).trans k4).alloc _).drew).trans k6
        | exact ((((K1.out.drew).alloc _).drew).trans k4).trans k6
    have K6 := Lib.hid KK
    simp only [evInt, noText] at q0 q1 q2 q3 q4
    have hb2 := World.block_lt_of_cell? w6 _ q0
    clear KK k4 k6 K1 hconvA hconvB hwc HCONV HBIG HALL
    go_wp2_with fail
    go_quiet (fail)
    go_wp2_with fail
    go_ret
    exact ⟨rfl, (K6.out.alloc _).drewN _⟩

end Go.Proofs.Ytcmeebciolegbaa
