/-
  truchmanref1.Head: its contract for the majors 4 and 5, by length.
-/
import Derived.Test.YtdfdajedcgmbfaaBig
import Derived.Deep.RegionHeld
namespace Go.Proofs.Ytdfdajedcgmbfaa
open Go.RowKit Go.Tru

set_option maxHeartbeats 1600000 in
set_option maxRecDepth 100000 in
theorem head_4_0 (v : Nat) (h2 : v < 24) (w : World) :
    Calls Try.prog 15 #[.int .i64 4, .int .u64 v] w fun r w' => r = .returned (.string (bytesOf [UInt8.ofNat (128 + v)])) ∧ Keeps [] w w' := by
  obtain ⟨x, hx⟩ : ∃ x : Int, x = 128 + (v : Int) := ⟨_, rfl⟩
  have hs : strOfNums [x] = bytesOf [UInt8.ofNat (128 + v)] := by
    rw [show x = ((128 + v : Nat) : Int) by omega]; rfl
  have hconv := fun (W : World) (n : Nat) (hn : n = W.heap.size) => run_bytes_lit (P := Try.prog) 41 9 5 Try.underlying41 Try.underlying5 Try.underlying9 [x] W n hn
  simp only [List.length_cons, List.length_nil, List.map_cons, List.map_nil, Nat.zero_add] at hconv
  have HC := hconv w w.heap.size rfl
  have hw1 : IntKind.u8.wrap (v : Int) = v := by simp [IntKind.wrap, IntKind.bits, IntKind.signed]; omega
  have hw2 : IntKind.u8.wrap (128 + (v : Int)) = x := by rw [hx]; simp [IntKind.wrap, IntKind.bits, IntKind.signed]; omega
  have HS := Lib.hid hs
  have hv2 : (v : Int) < 24 := by omega
  clear hx hs hconv h2
  go_enter Try.func15, Try.ntmps15
  go_wp2_with fail
  go_ret
  exact ⟨by first | rfl | (rw [← HS.out] <;> rfl) | (rw [HS.out] <;> rfl), (Keeps.refl [] w).alloc _⟩

set_option maxHeartbeats 1600000 in
set_option maxRecDepth 100000 in
theorem head_4_1 (v : Nat) (h1 : 24 ≤ v) (h2 : v < 256) (w : World) :
    Calls Try.prog 15 #[.int .i64 4, .int .u64 v] w fun r w' => r = .returned (.string (⟨#[152]⟩ ++ bytesOf (bigB v 1))) ∧ Keeps [] w w' := by
  have hconv : ∀ (W : World) (g : Nat), W.cell? ⟨g, 0, none⟩ = some (.int .u8 152) → (convert 41 9 (.slice (some ⟨g, 0, none⟩) 1 1)).run Try.prog W = .ok (.string ⟨#[152]⟩) W := fun W g hg =>
    run_convert_bytes_back W 41 9 5 ⟨g, 0, none⟩ 1 [152] Try.underlying41 Try.underlying5 Try.underlying9 (fun j hj => by
      obtain rfl : j = 0 := by simp at hj; omega
      exact hg)
  have hconvA : ∀ (W : World) (t : TypeId), (convert 41 9 (.slice (some ⟨W.heap.size, 0, none⟩) 1 1)).run Try.prog (W.alloc (.cells #[.int .u8 152] t)) = .ok (.string ⟨#[152]⟩) (W.alloc (.cells #[.int .u8 152] t)) := fun W t =>
    hconv _ _ ((Has.new' W #[.int .u8 152] t rfl).cell 0)
  have hconvB : ∀ (W : World) (t : TypeId), (convert 41 9 (.slice (some ⟨W.heap.size, 0, none⟩) 1 1)).run Try.prog (W.alloc (.cells #[.int .u8 152] t)).drew = .ok (.string ⟨#[152]⟩) (W.alloc (.cells #[.int .u8 152] t)).drew := fun W t =>
    hconv _ _ ((Has.new' W #[.int .u8 152] t rfl).cell 0)
  have hwc : IntKind.u8.wrap 152 = 152 := by decide
  have HCONV := Lib.hid hconv
  have HBIG := Lib.hid (fun W => big_any v 1 (by omega) (by omega) W)
  have f0 : ¬ (v : Int) < 24 := by omega
  have f1 : (v : Int) < 256 := by omega
  clear hconv h1 h2
  go_enter Try.func15, Try.ntmps15
  go_wp2_with fail
  clear f0 f1
  go_region_held (fun _ => True) (trivial) ((go_at_call 22; refine (HBIG.out _).mono ?_; rintro e w4 ⟨rfl, k4⟩; try have c4 := HCONV.out w4 w.heap.size (k4.cell ((Has.new' w #[.int .u8 152] _ rfl).cell 0) (by simp))))
  all_goals
    go_wp2_with fail
    go_ret
    refine ⟨rfl, ?_⟩
    first
      | exact (((Keeps.refl [] w).alloc _).drew).trans k4
      | exact (((Keeps.refl [] w).drew).trans k4).alloc _
      | exact (((Keeps.refl [] w).drew).alloc _).trans k4
      | exact ((((Keeps.refl [] w).drew).trans k4).alloc _).drew

set_option maxHeartbeats 1600000 in
set_option maxRecDepth 100000 in
theorem head_4_2 (v : Nat) (h1 : 256 ≤ v) (h2 : v < 65536) (w : World) :
    Calls Try.prog 15 #[.int .i64 4, .int .u64 v] w fun r w' => r = .returned (.string (⟨#[153]⟩ ++ bytesOf (bigB v 2))) ∧ Keeps [] w w' := by
  have hconv : ∀ (W : World) (g : Nat), W.cell? ⟨g, 0, none⟩ = some (.int .u8 153) → (convert 41 9 (.slice (some ⟨g, 0, none⟩) 1 1)).run Try.prog W = .ok (.string ⟨#[153]⟩) W := fun W g hg =>
    run_convert_bytes_back W 41 9 5 ⟨g, 0, none⟩ 1 [153] Try.underlying41 Try.underlying5 Try.underlying9 (fun j hj => by
      obtain rfl : j = 0 := by simp at hj; omega
      exact hg)
  have hconvA : ∀ (W : World) (t : TypeId), (convert 41 9 (.slice (some ⟨W.heap.size, 0, none⟩) 1 1)).run Try.prog (W.alloc (.cells #[.int .u8 153] t)) = .ok (.string ⟨#[153]⟩) (W.alloc (.cells #[.int .u8 153] t)) := fun W t =>
    hconv _ _ ((Has.new' W #[.int .u8 153] t rfl).cell 0)
  have hconvB : ∀ (W : World) (t : TypeId), (convert 41 9 (.slice (some ⟨W.heap.size, 0, none⟩) 1 1)).run Try.prog (W.alloc (.cells #[.int .u8 153] t)).drew = .ok (.string ⟨#[153]⟩) (W.alloc (.cells #[.int .u8 153] t)).drew := fun W t =>
    hconv _ _ ((Has.new' W #[.int .u8 153] t rfl).cell 0)
  have hwc : IntKind.u8.wrap 153 = 153 := by decide
  have HCONV := Lib.hid hconv
  have HBIG := Lib.hid (fun W => big_any v 2 (by omega) (by omega) W)
  have f0 : ¬ (v : Int) < 24 := by omega
  have f1 : ¬ (v : Int) < 256 := by omega
  have f2 : (v : Int) < 65536 := by omega
  clear hconv h1 h2
  go_enter Try.func15, Try.ntmps15
  go_wp2_with fail
  clear f0 f1 f2
  go_region_held (fun _ => True) (trivial) ((go_at_call 22; refine (HBIG.out _).mono ?_; rintro e w4 ⟨rfl, k4⟩; try have c4 := HCONV.out w4 w.heap.size (k4.cell ((Has.new' w #[.int .u8 153] _ rfl).cell 0) (by simp))))
  all_goals
    go_wp2_with fail
    go_ret
    refine ⟨rfl, ?_⟩
    first
      | exact (((Keeps.refl [] w).alloc _).drew).trans k4
      | exact (((Keeps.refl [] w).drew).trans k4).alloc _
      | exact (((Keeps.refl [] w).drew).alloc _).trans k4
      | exact ((((Keeps.refl [] w).drew).trans k4).alloc _).drew

set_option maxHeartbeats 1600000 in
set_option maxRecDepth 100000 in
theorem head_4_4 (v : Nat) (h1 : 65536 ≤ v) (h2 : v < 4294967296) (w : World) :
    Calls Try.prog 15 #[.int .i64 4, .int .u64 v] w fun r w' => r = .returned (.string (⟨#[154]⟩ ++ bytesOf (bigB v 4))) ∧ Keeps [] w w' := by
  have hconv : ∀ (W : World) (g : Nat), W.cell? ⟨g, 0, none⟩ = some (.int .u8 154) → (convert 41 9 (.slice (some ⟨g, 0, none⟩) 1 1)).run Try.prog W = .ok (.string ⟨#[154]⟩) W := fun W g hg =>
    run_convert_bytes_back W 41 9 5 ⟨g, 0, none⟩ 1 [154] Try.underlying41 Try.underlying5 Try.underlying9 (fun j hj => by
      obtain rfl : j = 0 := by simp at hj; omega
      exact hg)
  have hconvA : ∀ (W : World) (t : TypeId), (convert 41 9 (.slice (some ⟨W.heap.size, 0, none⟩) 1 1)).run Try.prog (W.alloc (.cells #[.int .u8 154] t)) = .ok (.string ⟨#[154]⟩) (W.alloc (.cells #[.int .u8 154] t)) := fun W t =>
    hconv _ _ ((Has.new' W #[.int .u8 154] t rfl).cell 0)
  have hconvB : ∀ (W : World) (t : TypeId), (convert 41 9 (.slice (some ⟨W.heap.size, 0, none⟩) 1 1)).run Try.prog (W.alloc (.cells #[.int .u8 154] t)).drew = .ok (.string ⟨#[154]⟩) (W.alloc (.cells #[.int .u8 154] t)).drew := fun W t =>
    hconv _ _ ((Has.new' W #[.int .u8 154] t rfl).cell 0)
  have hwc : IntKind.u8.wrap 154 = 154 := by decide
  have HCONV := Lib.hid hconv
  have HBIG := Lib.hid (fun W => big_any v 4 (by omega) (by omega) W)
  have f0 : ¬ (v : Int) < 24 := by omega
  have f1 : ¬ (v : Int) < 256 := by omega
  have f2 : ¬ (v : Int) < 65536 := by omega
  have f3 : (v : Int) < 4294967296 := by omega
  clear hconv h1 h2
  go_enter Try.func15, Try.ntmps15
  go_wp2_with fail
  clear f0 f1 f2 f3
  go_region_held (fun _ => True) (trivial) ((go_at_call 22; refine (HBIG.out _).mono ?_; rintro e w4 ⟨rfl, k4⟩; try have c4 := HCONV.out w4 w.heap.size (k4.cell ((Has.new' w #[.int .u8 154] _ rfl).cell 0) (by simp))))
  all_goals
    go_wp2_with fail
    go_ret
    refine ⟨rfl, ?_⟩
    first
      | exact (((Keeps.refl [] w).alloc _).drew).trans k4
      | exact (((Keeps.refl [] w).drew).trans k4).alloc _
      | exact (((Keeps.refl [] w).drew).alloc _).trans k4
      | exact ((((Keeps.refl [] w).drew).trans k4).alloc _).drew

set_option maxHeartbeats 1600000 in
set_option maxRecDepth 100000 in
theorem head_4_8 (v : Nat) (h1 : 4294967296 ≤ v) (h2 : v < 18446744073709551616) (w : World) :
    Calls Try.prog 15 #[.int .i64 4, .int .u64 v] w fun r w' => r = .returned (.string (⟨#[155]⟩ ++ bytesOf (bigB v 8))) ∧ Keeps [] w w' := by
  have hconv : ∀ (W : World) (g : Nat), W.cell? ⟨g, 0, none⟩ = some (.int .u8 155) → (convert 41 9 (.slice (some ⟨g, 0, none⟩) 1 1)).run Try.prog W = .ok (.string ⟨#[155]⟩) W := fun W g hg =>
    run_convert_bytes_back W 41 9 5 ⟨g, 0, none⟩ 1 [155] Try.underlying41 Try.underlying5 Try.underlying9 (fun j hj => by
      obtain rfl : j = 0 := by simp at hj; omega
      exact hg)
  have hconvA : ∀ (W : World) (t : TypeId), (convert 41 9 (.slice (some ⟨W.heap.size, 0, none⟩) 1 1)).run Try.prog (W.alloc (.cells #[.int .u8 155] t)) = .ok (.string ⟨#[155]⟩) (W.alloc (.cells #[.int .u8 155] t)) := fun W t =>
    hconv _ _ ((Has.new' W #[.int .u8 155] t rfl).cell 0)
  have hconvB : ∀ (W : World) (t : TypeId), (convert 41 9 (.slice (some ⟨W.heap.size, 0, none⟩) 1 1)).run Try.prog (W.alloc (.cells #[.int .u8 155] t)).drew = .ok (.string ⟨#[155]⟩) (W.alloc (.cells #[.int .u8 155] t)).drew := fun W t =>
    hconv _ _ ((Has.new' W #[.int .u8 155] t rfl).cell 0)
  have hwc : IntKind.u8.wrap 155 = 155 := by decide
  have HCONV := Lib.hid hconv
  have HBIG := Lib.hid (fun W => big_any v 8 (by omega) (by omega) W)
  have f0 : ¬ (v : Int) < 24 := by omega
  have f1 : ¬ (v : Int) < 256 := by omega
  have f2 : ¬ (v : Int) < 65536 := by omega
  have f3 : ¬ (v : Int) < 4294967296 := by omega
  clear hconv h1 h2
  go_enter Try.func15, Try.ntmps15
  go_wp2_with fail
  clear f0 f1 f2 f3
  go_region_held (fun _ => True) (trivial) ((go_at_call 22; refine (HBIG.out _).mono ?_; rintro e w4 ⟨rfl, k4⟩; try have c4 := HCONV.out w4 w.heap.size (k4.cell ((Has.new' w #[.int .u8 155] _ rfl).cell 0) (by simp))))
  all_goals
    go_wp2_with fail
    go_ret
    refine ⟨rfl, ?_⟩
    first
      | exact (((Keeps.refl [] w).alloc _).drew).trans k4
      | exact (((Keeps.refl [] w).drew).trans k4).alloc _
      | exact (((Keeps.refl [] w).drew).alloc _).trans k4
      | exact ((((Keeps.refl [] w).drew).trans k4).alloc _).drew

set_option maxHeartbeats 1600000 in
set_option maxRecDepth 100000 in
theorem head_5_0 (v : Nat) (h2 : v < 24) (w : World) :
    Calls Try.prog 15 #[.int .i64 5, .int .u64 v] w fun r w' => r = .returned (.string (bytesOf [UInt8.ofNat (160 + v)])) ∧ Keeps [] w w' := by
  obtain ⟨x, hx⟩ : ∃ x : Int, x = 160 + (v : Int) := ⟨_, rfl⟩
  have hs : strOfNums [x] = bytesOf [UInt8.ofNat (160 + v)] := by
    rw [show x = ((160 + v : Nat) : Int) by omega]; rfl
  have hconv := fun (W : World) (n : Nat) (hn : n = W.heap.size) => run_bytes_lit (P := Try.prog) 41 9 5 Try.underlying41 Try.underlying5 Try.underlying9 [x] W n hn
  simp only [List.length_cons, List.length_nil, List.map_cons, List.map_nil, Nat.zero_add] at hconv
  have HC := hconv w w.heap.size rfl
  have hw1 : IntKind.u8.wrap (v : Int) = v := by simp [IntKind.wrap, IntKind.bits, IntKind.signed]; omega
  have hw2 : IntKind.u8.wrap (160 + (v : Int)) = x := by rw [hx]; simp [IntKind.wrap, IntKind.bits, IntKind.signed]; omega
  have HS := Lib.hid hs
  have hv2 : (v : Int) < 24 := by omega
  clear hx hs hconv h2
  go_enter Try.func15, Try.ntmps15
  go_wp2_with fail
  go_ret
  exact ⟨by first | rfl | (rw [← HS.out] <;> rfl) | (rw [HS.out] <;> rfl), (Keeps.refl [] w).alloc _⟩

set_option maxHeartbeats 1600000 in
set_option maxRecDepth 100000 in
theorem head_5_1 (v : Nat) (h1 : 24 ≤ v) (h2 : v < 256) (w : World) :
    Calls Try.prog 15 #[.int .i64 5, .int .u64 v] w fun r w' => r = .returned (.string (⟨#[184]⟩ ++ bytesOf (bigB v 1))) ∧ Keeps [] w w' := by
  have hconv : ∀ (W : World) (g : Nat), W.cell? ⟨g, 0, none⟩ = some (.int .u8 184) → (convert 41 9 (.slice (some ⟨g, 0, none⟩) 1 1)).run Try.prog W = .ok (.string ⟨#[184]⟩) W := fun W g hg =>
    run_convert_bytes_back W 41 9 5 ⟨g, 0, none⟩ 1 [184] Try.underlying41 Try.underlying5 Try.underlying9 (fun j hj => by
      obtain rfl : j = 0 := by simp at hj; omega
      exact hg)
  have hconvA : ∀ (W : World) (t : TypeId), (convert 41 9 (.slice (some ⟨W.heap.size, 0, none⟩) 1 1)).run Try.prog (W.alloc (.cells #[.int .u8 184] t)) = .ok (.string ⟨#[184]⟩) (W.alloc (.cells #[.int .u8 184] t)) := fun W t =>
    hconv _ _ ((Has.new' W #[.int .u8 184] t rfl).cell 0)
  have hconvB : ∀ (W : World) (t : TypeId), (convert 41 9 (.slice (some ⟨W.heap.size, 0, none⟩) 1 1)).run Try.prog (W.alloc (.cells #[.int .u8 184] t)).drew = .ok (.string ⟨#[184]⟩) (W.alloc (.cells #[.int .u8 184] t)).drew := fun W t =>
    hconv _ _ ((Has.new' W #[.int .u8 184] t rfl).cell 0)
  have hwc : IntKind.u8.wrap 184 = 184 := by decide
  have HCONV := Lib.hid hconv
  have HBIG := Lib.hid (fun W => big_any v 1 (by omega) (by omega) W)
  have f0 : ¬ (v : Int) < 24 := by omega
  have f1 : (v : Int) < 256 := by omega
  clear hconv h1 h2
  go_enter Try.func15, Try.ntmps15
  go_wp2_with fail
  clear f0 f1
  go_region_held (fun _ => True) (trivial) ((go_at_call 22; refine (HBIG.out _).mono ?_; rintro e w4 ⟨rfl, k4⟩; try have c4 := HCONV.out w4 w.heap.size (k4.cell ((Has.new' w #[.int .u8 184] _ rfl).cell 0) (by simp))))
  all_goals
    go_wp2_with fail
    go_ret
    refine ⟨rfl, ?_⟩
    first
      | exact (((Keeps.refl [] w).alloc _).drew).trans k4
      | exact (((Keeps.refl [] w).drew).trans k4).alloc _
      | exact (((Keeps.refl [] w).drew).alloc _).trans k4
      | exact ((((Keeps.refl [] w).drew).trans k4).alloc _).drew

set_option maxHeartbeats 1600000 in
set_option maxRecDepth 100000 in
theorem head_5_2 (v : Nat) (h1 : 256 ≤ v) (h2 : v < 65536) (w : World) :
    Calls Try.prog 15 #[.int .i64 5, .int .u64 v] w fun r w' => r = .returned (.string (⟨#[185]⟩ ++ bytesOf (bigB v 2))) ∧ Keeps [] w w' := by
  have hconv : ∀ (W : World) (g : Nat), W.cell? ⟨g, 0, none⟩ = some (.int .u8 185) → (convert 41 9 (.slice (some ⟨g, 0, none⟩) 1 1)).run Try.prog W = .ok (.string ⟨#[185]⟩) W := fun W g hg =>
    run_convert_bytes_back W 41 9 5 ⟨g, 0, none⟩ 1 [185] Try.underlying41 Try.underlying5 Try.underlying9 (fun j hj => by
      obtain rfl : j = 0 := by simp at hj; omega
      exact hg)
  have hconvA : ∀ (W : World) (t : TypeId), (convert 41 9 (.slice (some ⟨W.heap.size, 0, none⟩) 1 1)).run Try.prog (W.alloc (.cells #[.int .u8 185] t)) = .ok (.string ⟨#[185]⟩) (W.alloc (.cells #[.int .u8 185] t)) := fun W t =>
    hconv _ _ ((Has.new' W #[.int .u8 185] t rfl).cell 0)
  have hconvB : ∀ (W : World) (t : TypeId), (convert 41 9 (.slice (some ⟨W.heap.size, 0, none⟩) 1 1)).run Try.prog (W.alloc (.cells #[.int .u8 185] t)).drew = .ok (.string ⟨#[185]⟩) (W.alloc (.cells #[.int .u8 185] t)).drew := fun W t =>
    hconv _ _ ((Has.new' W #[.int .u8 185] t rfl).cell 0)
  have hwc : IntKind.u8.wrap 185 = 185 := by decide
  have HCONV := Lib.hid hconv
  have HBIG := Lib.hid (fun W => big_any v 2 (by omega) (by omega) W)
  have f0 : ¬ (v : Int) < 24 := by omega
  have f1 : ¬ (v : Int) < 256 := by omega
  have f2 : (v : Int) < 65536 := by omega
  clear hconv h1 h2
  go_enter Try.func15, Try.ntmps15
  go_wp2_with fail
  clear f0 f1 f2
  go_region_held (fun _ => True) (trivial) ((go_at_call 22; refine (HBIG.out _).mono ?_; rintro e w4 ⟨rfl, k4⟩; try have c4 := HCONV.out w4 w.heap.size (k4.cell ((Has.new' w #[.int .u8 185] _ rfl).cell 0) (by simp))))
  all_goals
    go_wp2_with fail
    go_ret
    refine ⟨rfl, ?_⟩
    first
      | exact (((Keeps.refl [] w).alloc _).drew).trans k4
      | exact (((Keeps.refl [] w).drew).trans k4).alloc _
      | exact (((Keeps.refl [] w).drew).alloc _).trans k4
      | exact ((((Keeps.refl [] w).drew).trans k4).alloc _).drew

set_option maxHeartbeats 1600000 in
set_option maxRecDepth 100000 in
theorem head_5_4 (v : Nat) (h1 : 65536 ≤ v) (h2 : v < 4294967296) (w : World) :
    Calls Try.prog 15 #[.int .i64 5, .int .u64 v] w fun r w' => r = .returned (.string (⟨#[186]⟩ ++ bytesOf (bigB v 4))) ∧ Keeps [] w w' := by
  have hconv : ∀ (W : World) (g : Nat), W.cell? ⟨g, 0, none⟩ = some (.int .u8 186) → (convert 41 9 (.slice (some ⟨g, 0, none⟩) 1 1)).run Try.prog W = .ok (.string ⟨#[186]⟩) W := fun W g hg =>
    run_convert_bytes_back W 41 9 5 ⟨g, 0, none⟩ 1 [186] Try.underlying41 Try.underlying5 Try.underlying9 (fun j hj => by
      obtain rfl : j = 0 := by simp at hj; omega
      exact hg)
  have hconvA : ∀ (W : World) (t : TypeId), (convert 41 9 (.slice (some ⟨W.heap.size, 0, none⟩) 1 1)).run Try.prog (W.alloc (.cells #[.int .u8 186] t)) = .ok (.string ⟨#[186]⟩) (W.alloc (.cells #[.int .u8 186] t)) := fun W t =>
    hconv _ _ ((Has.new' W #[.int .u8 186] t rfl).cell 0)
  have hconvB : ∀ (W : World) (t : TypeId), (convert 41 9 (.slice (some ⟨W.heap.size, 0, none⟩) 1 1)).run Try.prog (W.alloc (.cells #[.int .u8 186] t)).drew = .ok (.string ⟨#[186]⟩) (W.alloc (.cells #[.int .u8 186] t)).drew := fun W t =>
    hconv _ _ ((Has.new' W #[.int .u8 186] t rfl).cell 0)
  have hwc : IntKind.u8.wrap 186 = 186 := by decide
  have HCONV := Lib.hid hconv
  have HBIG := Lib.hid (fun W => big_any v 4 (by omega) (by omega) W)
  have f0 : ¬ (v : Int) < 24 := by omega
  have f1 : ¬ (v : Int) < 256 := by omega
  have f2 : ¬ (v : Int) < 65536 := by omega
  have f3 : (v : Int) < 4294967296 := by omega
  clear hconv h1 h2
  go_enter Try.func15, Try.ntmps15
  go_wp2_with fail
  clear f0 f1 f2 f3
  go_region_held (fun _ => True) (trivial) ((go_at_call 22; refine (HBIG.out _).mono ?_; rintro e w4 ⟨rfl, k4⟩; try have c4 := HCONV.out w4 w.heap.size (k4.cell ((Has.new' w #[.int .u8 186] _ rfl).cell 0) (by simp))))
  all_goals
    go_wp2_with fail
    go_ret
    refine ⟨rfl, ?_⟩
    first
      | exact (((Keeps.refl [] w).alloc _).drew).trans k4
      | exact (((Keeps.refl [] w).drew).trans k4).alloc _
      | exact (((Keeps.refl [] w).drew).alloc _).trans k4
      | exact ((((Keeps.refl [] w).drew).trans k4).alloc _).drew

set_option maxHeartbeats 1600000 in
set_option maxRecDepth 100000 in
theorem head_5_8 (v : Nat) (h1 : 4294967296 ≤ v) (h2 : v < 18446744073709551616) (w : World) :
    Calls Try.prog 15 #[.int .i64 5, .int .u64 v] w fun r w' => r = .returned (.string (⟨#[187]⟩ ++ bytesOf (bigB v 8))) ∧ Keeps [] w w' := by
  have hconv : ∀ (W : World) (g : Nat), W.cell? ⟨g, 0, none⟩ = some (.int .u8 187) → (convert 41 9 (.slice (some ⟨g, 0, none⟩) 1 1)).run Try.prog W = .ok (.string ⟨#[187]⟩) W := fun W g hg =>
    run_convert_bytes_back W 41 9 5 ⟨g, 0, none⟩ 1 [187] Try.underlying41 Try.underlying5 Try.underlying9 (fun j hj => by
      obtain rfl : j = 0 := by simp at hj; omega
      exact hg)
  have hconvA : ∀ (W : World) (t : TypeId), (convert 41 9 (.slice (some ⟨W.heap.size, 0, none⟩) 1 1)).run Try.prog (W.alloc (.cells #[.int .u8 187] t)) = .ok (.string ⟨#[187]⟩) (W.alloc (.cells #[.int .u8 187] t)) := fun W t =>
    hconv _ _ ((Has.new' W #[.int .u8 187] t rfl).cell 0)
  have hconvB : ∀ (W : World) (t : TypeId), (convert 41 9 (.slice (some ⟨W.heap.size, 0, none⟩) 1 1)).run Try.prog (W.alloc (.cells #[.int .u8 187] t)).drew = .ok (.string ⟨#[187]⟩) (W.alloc (.cells #[.int .u8 187] t)).drew := fun W t =>
    hconv _ _ ((Has.new' W #[.int .u8 187] t rfl).cell 0)
  have hwc : IntKind.u8.wrap 187 = 187 := by decide
  have HCONV := Lib.hid hconv
  have HBIG := Lib.hid (fun W => big_any v 8 (by omega) (by omega) W)
  have f0 : ¬ (v : Int) < 24 := by omega
  have f1 : ¬ (v : Int) < 256 := by omega
  have f2 : ¬ (v : Int) < 65536 := by omega
  have f3 : ¬ (v : Int) < 4294967296 := by omega
  clear hconv h1 h2
  go_enter Try.func15, Try.ntmps15
  go_wp2_with fail
  clear f0 f1 f2 f3
  go_region_held (fun _ => True) (trivial) ((go_at_call 22; refine (HBIG.out _).mono ?_; rintro e w4 ⟨rfl, k4⟩; try have c4 := HCONV.out w4 w.heap.size (k4.cell ((Has.new' w #[.int .u8 187] _ rfl).cell 0) (by simp))))
  all_goals
    go_wp2_with fail
    go_ret
    refine ⟨rfl, ?_⟩
    first
      | exact (((Keeps.refl [] w).alloc _).drew).trans k4
      | exact (((Keeps.refl [] w).drew).trans k4).alloc _
      | exact (((Keeps.refl [] w).drew).alloc _).trans k4
      | exact ((((Keeps.refl [] w).drew).trans k4).alloc _).drew

end Go.Proofs.Ytdfdajedcgmbfaa
