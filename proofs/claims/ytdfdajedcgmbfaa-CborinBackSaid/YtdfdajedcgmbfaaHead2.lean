/-
  truchmanref1.Head: its contract for the majors 2 and 3, by length.
-/
import Derived.Test.YtdfdajedcgmbfaaBig
import Derived.Deep.RegionHeld
namespace Go.Proofs.Ytdfdajedcgmbfaa
open Go.RowKit Go.Tru

set_option maxHeartbeats 1600000 in
set_option maxRecDepth 100000 in
theorem head_2_0 (v : Nat) (h2 : v < 24) (w : World) :
    Calls Try.prog 15 #[.int .i64 2, .int .u64 v] w fun r w' => r = .returned (.string (bytesOf [UInt8.ofNat (64 + v)])) ∧ Keeps [] w w' := by
  obtain ⟨x, hx⟩ : ∃ x : Int, x = 64 + (v : Int) := ⟨_, rfl⟩
  have hs : strOfNums [x] = bytesOf [UInt8.ofNat (64 + v)] := by
    rw [show x = ((64 + v : Nat) : Int) by omega]; rfl
  have hconv := fun (W : World) (n : Nat) (hn : n = W.heap.size) => run_bytes_lit (P := Try.prog) 41 9 5 Try.underlying41 Try.underlying5 Try.underlying9 [x] W n hn
  simp only [List.length_cons, List.length_nil, List.map_cons, List.map_nil, Nat.zero_add] at hconv
  have HC := hconv w w.heap.size rfl
  have hw1 : IntKind.u8.wrap (v : Int) = v := by simp [IntKind.wrap, IntKind.bits, IntKind.signed]; omega
  have hw2 : IntKind.u8.wrap (64 + (v : Int)) = x := by rw [hx]; simp [IntKind.wrap, IntKind.bits, IntKind.signed]; omega
  have HS := Lib.hid hs
  have hv2 : (v : Int) < 24 := by omega
  clear hx hs hconv h2
  go_enter Try.func15, Try.ntmps15
  go_wp2_with fail
  go_ret
  exact ⟨by first | rfl | (rw [← HS.out] <;> rfl) | (rw [HS.out] <;> rfl), (Keeps.refl [] w).alloc _⟩

set_option maxHeartbeats 1600000 in
set_option maxRecDepth 100000 in
theorem head_2_1 (v : Nat) (h1 : 24 ≤ v) (h2 : v < 256) (w : World) :
    Calls Try.prog 15 #[.int .i64 2, .int .u64 v] w fun r w' => r = .returned (.string (⟨#[88]⟩ ++ bytesOf (bigB v 1))) ∧ Keeps [] w w' := by
  have hconv : ∀ (W : World) (g : Nat), W.cell? ⟨g, 0, none⟩ = some (.int .u8 88) → (convert 41 9 (.slice (some ⟨g, 0, none⟩) 1 1)).run Try.prog W = .ok (.string ⟨#[88]⟩) W := fun W g hg =>
    run_convert_bytes_back W 41 9 5 ⟨g, 0, none⟩ 1 [88] Try.underlying41 Try.underlying5 Try.underlying9 (fun j hj => by
      obtain rfl : j = 0 := by simp at hj; omega
      exact hg)
  have hconvA : ∀ (W : World) (t : TypeId), (convert 41 9 (.slice (some ⟨W.heap.size, 0, none⟩) 1 1)).run Try.prog (W.alloc (.cells #[.int .u8 88] t)) = .ok (.string ⟨#[88]⟩) (W.alloc (.cells #[.int .u8 88] t)) := fun W t =>
    hconv _ _ ((Has.new' W #[.int .u8 88] t rfl).cell 0)
  have hconvB : ∀ (W : World) (t : TypeId), (convert 41 9 (.slice (some ⟨W.heap.size, 0, none⟩) 1 1)).run Try.prog (W.alloc (.cells #[.int .u8 88] t)).drew = .ok (.string ⟨#[88]⟩) (W.alloc (.cells #[.int .u8 88] t)).drew := fun W t =>
    hconv _ _ ((Has.new' W #[.int .u8 88] t rfl).cell 0)
  have hwc : IntKind.u8.wrap 88 = 88 := by decide
  have HCONV := Lib.hid hconv
  have HBIG := Lib.hid (fun W => big_any v 1 (by omega) (by omega) W)
  have f0 : ¬ (v : Int) < 24 := by omega
  have f1 : (v : Int) < 256 := by omega
  clear hconv h1 h2
  go_enter Try.func15, Try.ntmps15
  go_wp2_with fail
  clear f0 f1
  go_region_held (fun _ => True) (trivial) ((go_at_call 22; refine (HBIG.out _).mono ?_; rintro e w4 ⟨rfl, k4⟩; try have c4 := HCONV.out w4 w.heap.size (k4.cell ((Has.new' w #[.int .u8 88] _ rfl).cell 0) (by simp))))
  all_goals
    go_wp2_with fail
    go_ret
    refine ⟨rfl, ?_⟩
    first
      | exact (((Keeps.refl [] w).alloc _).drew).trans k4
      | exact (((Keeps.refl [] w).drew).trans k4).alloc _
      | exact (((Keeps.refl [] w).drew).alloc _).trans k4
      | exact ((((Keeps.refl [] w).drew).trans k4).alloc _).drew

set_option maxHeartbeats 1600000 in
set_option maxRecDepth 100000 in
theorem head_2_2 (v : Nat) (h1 : 256 ≤ v) (h2 : v < 65536) (w : World) :
    Calls Try.prog 15 #[.int .i64 2, .int .u64 v] w fun r w' => r = .returned (.string (⟨#[89]⟩ ++ bytesOf (bigB v 2))) ∧ Keeps [] w w' := by
  have hconv : ∀ (W : World) (g : Nat), W.cell? ⟨g, 0, none⟩ = some (.int .u8 89) → (convert 41 9 (.slice (some ⟨g, 0, none⟩) 1 1)).run Try.prog W = .ok (.string ⟨#[89]⟩) W := fun W g hg =>
    run_convert_bytes_back W 41 9 5 ⟨g, 0, none⟩ 1 [89] Try.underlying41 Try.underlying5 Try.underlying9 (fun j hj => by
      obtain rfl : j = 0 := by simp at hj; omega
      exact hg)
  have hconvA : ∀ (W : World) (t : TypeId), (convert 41 9 (.slice (some ⟨W.heap.size, 0, none⟩) 1 1)).run Try.prog (W.alloc (.cells #[.int .u8 89] t)) = .ok (.string ⟨#[89]⟩) (W.alloc (.cells #[.int .u8 89] t)) := fun W t =>
    hconv _ _ ((Has.new' W #[.int .u8 89] t rfl).cell 0)
  have hconvB : ∀ (W : World) (t : TypeId), (convert 41 9 (.slice (some ⟨W.heap.size, 0, none⟩) 1 1)).run Try.prog (W.alloc (.cells #[.int .u8 89] t)).drew = .ok (.string ⟨#[89]⟩) (W.alloc (.cells #[.int .u8 89] t)).drew := fun W t =>
    hconv _ _ ((Has.new' W #[.int .u8 89] t rfl).cell 0)
  have hwc : IntKind.u8.wrap 89 = 89 := by decide
  have HCONV := Lib.hid hconv
  have HBIG := Lib.hid (fun W => big_any v 2 (by omega) (by omega) W)
  have f0 : ¬ (v : Int) < 24 := by omega
  have f1 : ¬ (v : Int) < 256 := by omega
  have f2 : (v : Int) < 65536 := by omega
  clear hconv h1 h2
  go_enter Try.func15, Try.ntmps15
  go_wp2_with fail
  clear f0 f1 f2
  go_region_held (fun _ => True) (trivial) ((go_at_call 22; refine (HBIG.out _).mono ?_; rintro e w4 ⟨rfl, k4⟩; try have c4 := HCONV.out w4 w.heap.size (k4.cell ((Has.new' w #[.int .u8 89] _ rfl).cell 0) (by simp))))
  all_goals
    go_wp2_with fail
    go_ret
    refine ⟨rfl, ?_⟩
    first
      | exact (((Keeps.refl [] w).alloc _).drew).trans k4
      | exact (((Keeps.refl [] w).drew).trans k4).alloc _
      | exact (((Keeps.refl [] w).drew).alloc _).trans k4
      | exact ((((Keeps.refl [] w).drew).trans k4).alloc _).drew

set_option maxHeartbeats 1600000 in
set_option maxRecDepth 100000 in
theorem head_2_4 (v : Nat) (h1 : 65536 ≤ v) (h2 : v < 4294967296) (w : World) :
    Calls Try.prog 15 #[.int .i64 2, .int .u64 v] w fun r w' => r = .returned (.string (⟨#[90]⟩ ++ bytesOf (bigB v 4))) ∧ Keeps [] w w' := by
  have hconv : ∀ (W : World) (g : Nat), W.cell? ⟨g, 0, none⟩ = some (.int .u8 90) → (convert 41 9 (.slice (some ⟨g, 0, none⟩) 1 1)).run Try.prog W = .ok (.string ⟨#[90]⟩) W := fun W g hg =>
    run_convert_bytes_back W 41 9 5 ⟨g, 0, none⟩ 1 [90] Try.underlying41 Try.underlying5 Try.underlying9 (fun j hj => by
      obtain rfl : j = 0 := by simp at hj; omega
      exact hg)
  have hconvA : ∀ (W : World) (t : TypeId), (convert 41 9 (.slice (some ⟨W.heap.size, 0, none⟩) 1 1)).run Try.prog (W.alloc (.cells #[.int .u8 90] t)) = .ok (.string ⟨#[90]⟩) (W.alloc (.cells #[.int .u8 90] t)) := fun W t =>
    hconv _ _ ((Has.new' W #[.int .u8 90] t rfl).cell 0)
  have hconvB : ∀ (W : World) (t : TypeId), (convert 41 9 (.slice (some ⟨W.heap.size, 0, none⟩) 1 1)).run Try.prog (W.alloc (.cells #[.int .u8 90] t)).drew = .ok (.string ⟨#[90]⟩) (W.alloc (.cells #[.int .u8 90] t)).drew := fun W t =>
    hconv _ _ ((Has.new' W #[.int .u8 90] t rfl).cell 0)
  have hwc : IntKind.u8.wrap 90 = 90 := by decide
  have HCONV := Lib.hid hconv
  have HBIG := Lib.hid (fun W => big_any v 4 (by omega) (by omega) W)
  have f0 : ¬ (v : Int) < 24 := by omega
  have f1 : ¬ (v : Int) < 256 := by omega
  have f2 : ¬ (v : Int) < 65536 := by omega
  have f3 : (v : Int) < 4294967296 := by omega
  clear hconv h1 h2
  go_enter Try.func15, Try.ntmps15
  go_wp2_with fail
  clear f0 f1 f2 f3
  go_region_held (fun _ => True) (trivial) ((go_at_call 22; refine (HBIG.out _).mono ?_; rintro e w4 ⟨rfl, k4⟩; try have c4 := HCONV.out w4 w.heap.size (k4.cell ((Has.new' w #[.int .u8 90] _ rfl).cell 0) (by simp))))
  all_goals
    go_wp2_with fail
    go_ret
    refine ⟨rfl, ?_⟩
    first
      | exact (((Keeps.refl [] w).alloc _).drew).trans k4
      | exact (((Keeps.refl [] w).drew).trans k4).alloc _
      | exact (((Keeps.refl [] w).drew).alloc _).trans k4
      | exact ((((Keeps.refl [] w).drew).trans k4).alloc _).drew

set_option maxHeartbeats 1600000 in
set_option maxRecDepth 100000 in
theorem head_2_8 (v : Nat) (h1 : 4294967296 ≤ v) (h2 : v < 18446744073709551616) (w : World) :
    Calls Try.prog 15 #[.int .i64 2, .int .u64 v] w fun r w' => r = .returned (.string (⟨#[91]⟩ ++ bytesOf (bigB v 8))) ∧ Keeps [] w w' := by
  have hconv : ∀ (W : World) (g : Nat), W.cell? ⟨g, 0, none⟩ = some (.int .u8 91) → (convert 41 9 (.slice (some ⟨g, 0, none⟩) 1 1)).run Try.prog W = .ok (.string ⟨#[91]⟩) W := fun W g hg =>
    run_convert_bytes_back W 41 9 5 ⟨g, 0, none⟩ 1 [91] Try.underlying41 Try.underlying5 Try.underlying9 (fun j hj => by
      obtain rfl : j = 0 := by simp at hj; omega
      exact hg)
  have hconvA : ∀ (W : World) (t : TypeId), (convert 41 9 (.slice (some ⟨W.heap.size, 0, none⟩) 1 1)).run Try.prog (W.alloc (.cells #[.int .u8 91] t)) = .ok (.string ⟨#[91]⟩) (W.alloc (.cells #[.int .u8 91] t)) := fun W t =>
    hconv _ _ ((Has.new' W #[.int .u8 91] t rfl).cell 0)
  have hconvB : ∀ (W : World) (t : TypeId), (convert 41 9 (.slice (some ⟨W.heap.size, 0, none⟩) 1 1)).run Try.prog (W.alloc (.cells #[.int .u8 91] t)).drew = .ok (.string ⟨#[91]⟩) (W.alloc (.cells #[.int .u8 91] t)).drew := fun W t =>
    hconv _ _ ((Has.new' W #[.int .u8 91] t rfl).cell 0)
  have hwc : IntKind.u8.wrap 91 = 91 := by decide
  have HCONV := Lib.hid hconv
  have HBIG := Lib.hid (fun W => big_any v 8 (by omega) (by omega) W)
  have f0 : ¬ (v : Int) < 24 := by omega
  have f1 : ¬ (v : Int) < 256 := by omega
  have f2 : ¬ (v : Int) < 65536 := by omega
  have f3 : ¬ (v : Int) < 4294967296 := by omega
  clear hconv h1 h2
  go_enter Try.func15, Try.ntmps15
  go_wp2_with fail
  clear f0 f1 f2 f3
  go_region_held (fun _ => True) (trivial) ((go_at_call 22; refine (HBIG.out _).mono ?_; rintro e w4 ⟨rfl, k4⟩; try have c4 := HCONV.out w4 w.heap.size (k4.cell ((Has.new' w #[.int .u8 91] _ rfl).cell 0) (by simp))))
  all_goals
    go_wp2_with fail
    go_ret
    refine ⟨rfl, ?_⟩
    first
      | exact (((Keeps.refl [] w).alloc _).drew).trans k4
      | exact (((Keeps.refl [] w).drew).trans k4).alloc _
      | exact (((Keeps.refl [] w).drew).alloc _).trans k4
      | exact ((((Keeps.refl [] w).drew).trans k4).alloc _).drew

set_option maxHeartbeats 1600000 in
set_option maxRecDepth 100000 in
theorem head_3_0 (v : Nat) (h2 : v < 24) (w : World) :
    Calls Try.prog 15 #[.int .i64 3, .int .u64 v] w fun r w' => r = .returned (.string (bytesOf [UInt8.ofNat (96 + v)])) ∧ Keeps [] w w' := by
  obtain ⟨x, hx⟩ : ∃ x : Int, x = 96 + (v : Int) := ⟨_, rfl⟩
  have hs : strOfNums [x] = bytesOf [UInt8.ofNat (96 + v)] := by
    rw [show x = ((96 + v : Nat) : Int) by omega]; rfl
  have hconv := fun (W : World) (n : Nat) (hn : n = W.heap.size) => run_bytes_lit (P := Try.prog) 41 9 5 Try.underlying41 Try.underlying5 Try.underlying9 [x] W n hn
  simp only [List.length_cons, List.length_nil, List.map_cons, List.map_nil, Nat.zero_add] at hconv
  have HC := hconv w w.heap.size rfl
  have hw1 : IntKind.u8.wrap (v : Int) = v := by simp [IntKind.wrap, IntKind.bits, IntKind.signed]; omega
  have hw2 : IntKind.u8.wrap (96 + (v : Int)) = x := by rw [hx]; simp [IntKind.wrap, IntKind.bits, IntKind.signed]; omega
  have HS := Lib.hid hs
  have hv2 : (v : Int) < 24 := by omega
  clear hx hs hconv h2
  go_enter Try.func15, Try.ntmps15
  go_wp2_with fail
  go_ret
  exact ⟨by first | rfl | (rw [← HS.out] <;> rfl) | (rw [HS.out] <;> rfl), (Keeps.refl [] w).alloc _⟩

set_option maxHeartbeats 1600000 in
set_option maxRecDepth 100000 in
theorem head_3_1 (v : Nat) (h1 : 24 ≤ v) (h2 : v < 256) (w : World) :
    Calls Try.prog 15 #[.int .i64 3, .int .u64 v] w fun r w' => r = .returned (.string (⟨#[120]⟩ ++ bytesOf (bigB v 1))) ∧ Keeps [] w w' := by
  have hconv : ∀ (W : World) (g : Nat), W.cell? ⟨g, 0, none⟩ = some (.int .u8 120) → (convert 41 9 (.slice (some ⟨g, 0, none⟩) 1 1)).run Try.prog W = .ok (.string ⟨#[120]⟩) W := fun W g hg =>
    run_convert_bytes_back W 41 9 5 ⟨g, 0, none⟩ 1 [120] Try.underlying41 Try.underlying5 Try.underlying9 (fun j hj => by
      obtain rfl : j = 0 := by simp at hj; omega
      exact hg)
  have hconvA : ∀ (W : World) (t : TypeId), (convert 41 9 (.slice (some ⟨W.heap.size, 0, none⟩) 1 1)).run Try.prog (W.alloc (.cells #[.int .u8 120] t)) = .ok (.string ⟨#[120]⟩) (W.alloc (.cells #[.int .u8 120] t)) := fun W t =>
    hconv _ _ ((Has.new' W #[.int .u8 120] t rfl).cell 0)
  have hconvB : ∀ (W : World) (t : TypeId), (convert 41 9 (.slice (some ⟨W.heap.size, 0, none⟩) 1 1)).run Try.prog (W.alloc (.cells #[.int .u8 120] t)).drew = .ok (.string ⟨#[120]⟩) (W.alloc (.cells #[.int .u8 120] t)).drew := fun W t =>
    hconv _ _ ((Has.new' W #[.int .u8 120] t rfl).cell 0)
  have hwc : IntKind.u8.wrap 120 = 120 := by decide
  have HCONV := Lib.hid hconv
  have HBIG := Lib.hid (fun W => big_any v 1 (by omega) (by omega) W)
  have f0 : ¬ (v : Int) < 24 := by omega
  have f1 : (v : Int) < 256 := by omega
  clear hconv h1 h2
  go_enter Try.func15, Try.ntmps15
  go_wp2_with fail
  clear f0 f1
  go_region_held (fun _ => True) (trivial) ((go_at_call 22; refine (HBIG.out _).mono ?_; rintro e w4 ⟨rfl, k4⟩; try have c4 := HCONV.out w4 w.heap.size (k4.cell ((Has.new' w #[.int .u8 120] _ rfl).cell 0) (by simp))))
  all_goals
    go_wp2_with fail
    go_ret
    refine ⟨rfl, ?_⟩
    first
      | exact (((Keeps.refl [] w).alloc _).drew).trans k4
      | exact (((Keeps.refl [] w).drew).trans k4).alloc _
      | exact (((Keeps.refl [] w).drew).alloc _).trans k4
      | exact ((((Keeps.refl [] w).drew).trans k4).alloc _).drew

set_option maxHeartbeats 1600000 in
set_option maxRecDepth 100000 in
theorem head_3_2 (v : Nat) (h1 : 256 ≤ v) (h2 : v < 65536) (w : World) :
    Calls Try.prog 15 #[.int .i64 3, .int .u64 v] w fun r w' => r = .returned (.string (⟨#[121]⟩ ++ bytesOf (bigB v 2))) ∧ Keeps [] w w' := by
  have hconv : ∀ (W : World) (g : Nat), W.cell? ⟨g, 0, none⟩ = some (.int .u8 121) → (convert 41 9 (.slice (some ⟨g, 0, none⟩) 1 1)).run Try.prog W = .ok (.string ⟨#[121]⟩) W := fun W g hg =>
    run_convert_bytes_back W 41 9 5 ⟨g, 0, none⟩ 1 [121] Try.underlying41 Try.underlying5 Try.underlying9 (fun j hj => by
      obtain rfl : j = 0 := by simp at hj; omega
      exact hg)
  have hconvA : ∀ (W : World) (t : TypeId), (convert 41 9 (.slice (some ⟨W.heap.size, 0, none⟩) 1 1)).run Try.prog (W.alloc (.cells #[.int .u8 121] t)) = .ok (.string ⟨#[121]⟩) (W.alloc (.cells #[.int .u8 121] t)) := fun W t =>
    hconv _ _ ((Has.new' W #[.int .u8 121] t rfl).cell 0)
  have hconvB : ∀ (W : World) (t : TypeId), (convert 41 9 (.slice (some ⟨W.heap.size, 0, none⟩) 1 1)).run Try.prog (W.alloc (.cells #[.int .u8 121] t)).drew = .ok (.string ⟨#[121]⟩) (W.alloc (.cells #[.int .u8 121] t)).drew := fun W t =>
    hconv _ _ ((Has.new' W #[.int .u8 121] t rfl).cell 0)
  have hwc : IntKind.u8.wrap 121 = 121 := by decide
  have HCONV := Lib.hid hconv
  have HBIG := Lib.hid (fun W => big_any v 2 (by omega) (by omega) W)
  have f0 : ¬ (v : Int) < 24 := by omega
  have f1 : ¬ (v : Int) < 256 := by omega
  have f2 : (v : Int) < 65536 := by omega
  clear hconv h1 h2
  go_enter Try.func15, Try.ntmps15
  go_wp2_with fail
  clear f0 f1 f2
  go_region_held (fun _ => True) (trivial) ((go_at_call 22; refine (HBIG.out _).mono ?_; rintro e w4 ⟨rfl, k4⟩; try have c4 := HCONV.out w4 w.heap.size (k4.cell ((Has.new' w #[.int .u8 121] _ rfl).cell 0) (by simp))))
  all_goals
    go_wp2_with fail
    go_ret
    refine ⟨rfl, ?_⟩
    first
      | exact (((Keeps.refl [] w).alloc _).drew).trans k4
      | exact (((Keeps.refl [] w).drew).trans k4).alloc _
      | exact (((Keeps.refl [] w).drew).alloc _).trans k4
      | exact ((((Keeps.refl [] w).drew).trans k4).alloc _).drew

set_option maxHeartbeats 1600000 in
set_option maxRecDepth 100000 in
theorem head_3_4 (v : Nat) (h1 : 65536 ≤ v) (h2 : v < 4294967296) (w : World) :
    Calls Try.prog 15 #[.int .i64 3, .int .u64 v] w fun r w' => r = .returned (.string (⟨#[122]⟩ ++ bytesOf (bigB v 4))) ∧ Keeps [] w w' := by
  have hconv : ∀ (W : World) (g : Nat), W.cell? ⟨g, 0, none⟩ = some (.int .u8 122) → (convert 41 9 (.slice (some ⟨g, 0, none⟩) 1 1)).run Try.prog W = .ok (.string ⟨#[122]⟩) W := fun W g hg =>
    run_convert_bytes_back W 41 9 5 ⟨g, 0, none⟩ 1 [122] Try.underlying41 Try.underlying5 Try.underlying9 (fun j hj => by
      obtain rfl : j = 0 := by simp at hj; omega
      exact hg)
  have hconvA : ∀ (W : World) (t : TypeId), (convert 41 9 (.slice (some ⟨W.heap.size, 0, none⟩) 1 1)).run Try.prog (W.alloc (.cells #[.int .u8 122] t)) = .ok (.string ⟨#[122]⟩) (W.alloc (.cells #[.int .u8 122] t)) := fun W t =>
    hconv _ _ ((Has.new' W #[.int .u8 122] t rfl).cell 0)
  have hconvB : ∀ (W : World) (t : TypeId), (convert 41 9 (.slice (some ⟨W.heap.size, 0, none⟩) 1 1)).run Try.prog (W.alloc (.cells #[.int .u8 122] t)).drew = .ok (.string ⟨#[122]⟩) (W.alloc (.cells #[.int .u8 122] t)).drew := fun W t =>
    hconv _ _ ((Has.new' W #[.int .u8 122] t rfl).cell 0)
  have hwc : IntKind.u8.wrap 122 = 122 := by decide
  have HCONV := Lib.hid hconv
  have HBIG := Lib.hid (fun W => big_any v 4 (by omega) (by omega) W)
  have f0 : ¬ (v : Int) < 24 := by omega
  have f1 : ¬ (v : Int) < 256 := by omega
  have f2 : ¬ (v : Int) < 65536 := by omega
  have f3 : (v : Int) < 4294967296 := by omega
  clear hconv h1 h2
  go_enter Try.func15, Try.ntmps15
  go_wp2_with fail
  clear f0 f1 f2 f3
  go_region_held (fun _ => True) (trivial) ((go_at_call 22; refine (HBIG.out _).mono ?_; rintro e w4 ⟨rfl, k4⟩; try have c4 := HCONV.out w4 w.heap.size (k4.cell ((Has.new' w #[.int .u8 122] _ rfl).cell 0) (by simp))))
  all_goals
    go_wp2_with fail
    go_ret
    refine ⟨rfl, ?_⟩
    first
      | exact (((Keeps.refl [] w).alloc _).drew).trans k4
      | exact (((Keeps.refl [] w).drew).trans k4).alloc _
      | exact (((Keeps.refl [] w).drew).alloc _).trans k4
      | exact ((((Keeps.refl [] w).drew).trans k4).alloc _).drew

set_option maxHeartbeats 1600000 in
set_option maxRecDepth 100000 in
theorem head_3_8 (v : Nat) (h1 : 4294967296 ≤ v) (h2 : v < 18446744073709551616) (w : World) :
    Calls Try.prog 15 #[.int .i64 3, .int .u64 v] w fun r w' => r = .returned (.string (⟨#[123]⟩ ++ bytesOf (bigB v 8))) ∧ Keeps [] w w' := by
  have hconv : ∀ (W : World) (g : Nat), W.cell? ⟨g, 0, none⟩ = some (.int .u8 123) → (convert 41 9 (.slice (some ⟨g, 0, none⟩) 1 1)).run Try.prog W = .ok (.string ⟨#[123]⟩) W := fun W g hg =>
    run_convert_bytes_back W 41 9 5 ⟨g, 0, none⟩ 1 [123] Try.underlying41 Try.underlying5 Try.underlying9 (fun j hj => by
      obtain rfl : j = 0 := by simp at hj; omega
      exact hg)
  have hconvA : ∀ (W : World) (t : TypeId), (convert 41 9 (.slice (some ⟨W.heap.size, 0, none⟩) 1 1)).run Try.prog (W.alloc (.cells #[.int .u8 123] t)) = .ok (.string ⟨#[123]⟩) (W.alloc (.cells #[.int .u8 123] t)) := fun W t =>
    hconv _ _ ((Has.new' W #[.int .u8 123] t rfl).cell 0)
  have hconvB : ∀ (W : World) (t : TypeId), (convert 41 9 (.slice (some ⟨W.heap.size, 0, none⟩) 1 1)).run Try.prog (W.alloc (.cells #[.int .u8 123] t)).drew = .ok (.string ⟨#[123]⟩) (W.alloc (.cells #[.int .u8 123] t)).drew := fun W t =>
    hconv _ _ ((Has.new' W #[.int .u8 123] t rfl).cell 0)
  have hwc : IntKind.u8.wrap 123 = 123 := by decide
  have HCONV := Lib.hid hconv
  have HBIG := Lib.hid (fun W => big_any v 8 (by omega) (by omega) W)
  have f0 : ¬ (v : Int) < 24 := by omega
  have f1 : ¬ (v : Int) < 256 := by omega
  have f2 : ¬ (v : Int) < 65536 := by omega
  have f3 : ¬ (v : Int) < 4294967296 := by omega
  clear hconv h1 h2
  go_enter Try.func15, Try.ntmps15
  go_wp2_with fail
  clear f0 f1 f2 f3
  go_region_held (fun _ => True) (trivial) ((go_at_call 22; refine (HBIG.out _).mono ?_; rintro e w4 ⟨rfl, k4⟩; try have c4 := HCONV.out w4 w.heap.size (k4.cell ((Has.new' w #[.int .u8 123] _ rfl).cell 0) (by simp))))
  all_goals
    go_wp2_with fail
    go_ret
    refine ⟨rfl, ?_⟩
    first
      | exact (((Keeps.refl [] w).alloc _).drew).trans k4
      | exact (((Keeps.refl [] w).drew).trans k4).alloc _
      | exact (((Keeps.refl [] w).drew).alloc _).trans k4
      | exact ((((Keeps.refl [] w).drew).trans k4).alloc _).drew

end Go.Proofs.Ytdfdajedcgmbfaa
