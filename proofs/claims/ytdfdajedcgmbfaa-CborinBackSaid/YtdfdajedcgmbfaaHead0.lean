/-
  truchmanref1.Head: its contract for the majors 0 and 1, by length.
-/
import Derived.Test.YtdfdajedcgmbfaaBig
import Derived.Deep.RegionHeld
namespace Go.Proofs.Ytdfdajedcgmbfaa
open Go.RowKit Go.Tru

set_option maxHeartbeats 1600000 in
set_option maxRecDepth 100000 in
theorem head_0_0 (v : Nat) (h2 : v < 24) (w : World) :
    Calls Try.prog 15 #[.int .i64 0, .int .u64 v] w fun r w' => r = .returned (.string (bytesOf [UInt8.ofNat (0 + v)])) ∧ Keeps [] w w' := by
  have hs : strOfNums [(v : Int)] = bytesOf [UInt8.ofNat (0 + v)] := by
    rw [Nat.zero_add]; rfl
  have hconv := fun (W : World) (n : Nat) (hn : n = W.heap.size) => run_bytes_lit (P := Try.prog) 41 9 5 Try.underlying41 Try.underlying5 Try.underlying9 [(v : Int)] W n hn
  simp only [List.length_cons, List.length_nil, List.map_cons, List.map_nil, Nat.zero_add] at hconv
  have HC := hconv w w.heap.size rfl
  have hw1 : IntKind.u8.wrap (v : Int) = v := by simp [IntKind.wrap, IntKind.bits, IntKind.signed]; omega
  have HS := Lib.hid hs
  have hv2 : (v : Int) < 24 := by omega
  clear hs hconv h2
  go_enter Try.func15, Try.ntmps15
  go_wp2_with fail
  go_ret
  exact ⟨by first | rfl | (rw [← HS.out] <;> rfl) | (rw [HS.out] <;> rfl), (Keeps.refl [] w).alloc _⟩

set_option maxHeartbeats 1600000 in
set_option maxRecDepth 100000 in
theorem head_0_1 (v : Nat) (h1 : 24 ≤ v) (h2 : v < 256) (w : World) :
    Calls Try.prog 15 #[.int .i64 0, .int .u64 v] w fun r w' => r = .returned (.string (⟨#[24]⟩ ++ bytesOf (bigB v 1))) ∧ Keeps [] w w' := by
  have hconv : ∀ (W : World) (g : Nat), W.cell? ⟨g, 0, none⟩ = some (.int .u8 24) → (convert 41 9 (.slice (some ⟨g, 0, none⟩) 1 1)).run Try.prog W = .ok (.string ⟨#[24]⟩) W := fun W g hg =>
    run_convert_bytes_back W 41 9 5 ⟨g, 0, none⟩ 1 [24] Try.underlying41 Try.underlying5 Try.underlying9 (fun j hj => by
      obtain rfl : j = 0 := by simp at hj; omega
      exact hg)
  have hconvA : ∀ (W : World) (t : TypeId), (convert 41 9 (.slice (some ⟨W.heap.size, 0, none⟩) 1 1)).run Try.prog (W.alloc (.cells #[.int .u8 24] t)) = .ok (.string ⟨#[24]⟩) (W.alloc (.cells #[.int .u8 24] t)) := fun W t =>
    hconv _ _ ((Has.new' W #[.int .u8 24] t rfl).cell 0)
  have hconvB : ∀ (W : World) (t : TypeId), (convert 41 9 (.slice (some ⟨W.heap.size, 0, none⟩) 1 1)).run Try.prog (W.alloc (.cells #[.int .u8 24] t)).drew = .ok (.string ⟨#[24]⟩) (W.alloc (.cells #[.int .u8 24] t)).drew := fun W t =>
    hconv _ _ ((Has.new' W #[.int .u8 24] t rfl).cell 0)
  have hwc : IntKind.u8.wrap 24 = 24 := by decide
  have HCONV := Lib.hid hconv
  have HBIG := Lib.hid (fun W => big_any v 1 (by omega) (by omega) W)
  have f0 : ¬ (v : Int) < 24 := by omega
  have f1 : (v : Int) < 256 := by omega
  clear hconv h1 h2
  go_enter Try.func15, Try.ntmps15
  go_wp2_with fail
  clear f0 f1
  go_region_held (fun _ => True) (trivial) ((go_at_call 22; refine (HBIG.out _).mono ?_; rintro e w4 ⟨rfl, k4⟩; try have c4 := HCONV.out w4 w.heap.size (k4.cell ((Has.new' w #[.int .u8 24] _ rfl).cell 0) (by simp))))
  all_goals
    go_wp2_with fail
    go_ret
    refine ⟨rfl, ?_⟩
    first
      | exact (((Keeps.refl [] w).alloc _).drew).trans k4
      | exact (((Keeps.refl [] w).drew).trans k4).alloc _
      | exact (((Keeps.refl [] w).drew).alloc _).trans k4
      | exact ((((Keeps.refl [] w).drew).trans k4).alloc _).drew

set_option maxHeartbeats 1600000 in
set_option maxRecDepth 100000 in
theorem head_0_2 (v : Nat) (h1 : 256 ≤ v) (h2 : v < 65536) (w : World) :
    Calls Try.prog 15 #[.int .i64 0, .int .u64 v] w fun r w' => r = .returned (.string (⟨#[25]⟩ ++ bytesOf (bigB v 2))) ∧ Keeps [] w w' := by
  have hconv : ∀ (W : World) (g : Nat), W.cell? ⟨g, 0, none⟩ = some (.int .u8 25) → (convert 41 9 (.slice (some ⟨g, 0, none⟩) 1 1)).run Try.prog W = .ok (.string ⟨#[25]⟩) W := fun W g hg =>
    run_convert_bytes_back W 41 9 5 ⟨g, 0, none⟩ 1 [25] Try.underlying41 Try.underlying5 Try.underlying9 (fun j hj => by
      obtain rfl : j = 0 := by simp at hj; omega
      exact hg)
  have hconvA : ∀ (W : World) (t : TypeId), (convert 41 9 (.slice (some ⟨W.heap.size, 0, none⟩) 1 1)).run Try.prog (W.alloc (.cells #[.int .u8 25] t)) = .ok (.string ⟨#[25]⟩) (W.alloc (.cells #[.int .u8 25] t)) := fun W t =>
    hconv _ _ ((Has.new' W #[.int .u8 25] t rfl).cell 0)
  have hconvB : ∀ (W : World) (t : TypeId), (convert 41 9 (.slice (some ⟨W.heap.size, 0, none⟩) 1 1)).run Try.prog (W.alloc (.cells #[.int .u8 25] t)).drew = .ok (.string ⟨#[25]⟩) (W.alloc (.cells #[.int .u8 25] t)).drew := fun W t =>
    hconv _ _ ((Has.new' W #[.int .u8 25] t rfl).cell 0)
  have hwc : IntKind.u8.wrap 25 = 25 := by decide
  have HCONV := Lib.hid hconv
  have HBIG := Lib.hid (fun W => big_any v 2 (by omega) (by omega) W)
  have f0 : ¬ (v : Int) < 24 := by omega
  have f1 : ¬ (v : Int) < 256 := by omega
  have f2 : (v : Int) < 65536 := by omega
  clear hconv h1 h2
  go_enter Try.func15, Try.ntmps15
  go_wp2_with fail
  clear f0 f1 f2
  go_region_held (fun _ => True) (trivial) ((go_at_call 22; refine (HBIG.out _).mono ?_; rintro e w4 ⟨rfl, k4⟩; try have c4 := HCONV.out w4 w.heap.size (k4.cell ((Has.new' w #[.int .u8 25] _ rfl).cell 0) (by simp))))
  all_goals
    go_wp2_with fail
    go_ret
    refine ⟨rfl, ?_⟩
    first
      | exact (((Keeps.refl [] w).alloc _).drew).trans k4
      | exact (((Keeps.refl [] w).drew).trans k4).alloc _
      | exact (((Keeps.refl [] w).drew).alloc _).trans k4
      | exact ((((Keeps.refl [] w).drew).trans k4).alloc _).drew

set_option maxHeartbeats 1600000 in
set_option maxRecDepth 100000 in
theorem head_0_4 (v : Nat) (h1 : 65536 ≤ v) (h2 : v < 4294967296) (w : World) :
    Calls Try.prog 15 #[.int .i64 0, .int .u64 v] w fun r w' => r = .returned (.string (⟨#[26]⟩ ++ bytesOf (bigB v 4))) ∧ Keeps [] w w' := by
  have hconv : ∀ (W : World) (g : Nat), W.cell? ⟨g, 0, none⟩ = some (.int .u8 26) → (convert 41 9 (.slice (some ⟨g, 0, none⟩) 1 1)).run Try.prog W = .ok (.string ⟨#[26]⟩) W := fun W g hg =>
    run_convert_bytes_back W 41 9 5 ⟨g, 0, none⟩ 1 [26] Try.underlying41 Try.underlying5 Try.underlying9 (fun j hj => by
      obtain rfl : j = 0 := by simp at hj; omega
      exact hg)
  have hconvA : ∀ (W : World) (t : TypeId), (convert 41 9 (.slice (some ⟨W.heap.size, 0, none⟩) 1 1)).run Try.prog (W.alloc (.cells #[.int .u8 26] t)) = .ok (.string ⟨#[26]⟩) (W.alloc (.cells #[.int .u8 26] t)) := fun W t =>
    hconv _ _ ((Has.new' W #[.int .u8 26] t rfl).cell 0)
  have hconvB : ∀ (W : World) (t : TypeId), (convert 41 9 (.slice (some ⟨W.heap.size, 0, none⟩) 1 1)).run Try.prog (W.alloc (.cells #[.int .u8 26] t)).drew = .ok (.string ⟨#[26]⟩) (W.alloc (.cells #[.int .u8 26] t)).drew := fun W t =>
    hconv _ _ ((Has.new' W #[.int .u8 26] t rfl).cell 0)
  have hwc : IntKind.u8.wrap 26 = 26 := by decide
  have HCONV := Lib.hid hconv
  have HBIG := Lib.hid (fun W => big_any v 4 (by omega) (by omega) W)
  have f0 : ¬ (v : Int) < 24 := by omega
  have f1 : ¬ (v : Int) < 256 := by omega
  have f2 : ¬ (v : Int) < 65536 := by omega
  have f3 : (v : Int) < 4294967296 := by omega
  clear hconv h1 h2
  go_enter Try.func15, Try.ntmps15
  go_wp2_with fail
  clear f0 f1 f2 f3
  go_region_held (fun _ => True) (trivial) ((go_at_call 22; refine (HBIG.out _).mono ?_; rintro e w4 ⟨rfl, k4⟩; try have c4 := HCONV.out w4 w.heap.size (k4.cell ((Has.new' w #[.int .u8 26] _ rfl).cell 0) (by simp))))
  all_goals
    go_wp2_with fail
    go_ret
    refine ⟨rfl, ?_⟩
    first
      | exact (((Keeps.refl [] w).alloc _).drew).trans k4
      | exact (((Keeps.refl [] w).drew).trans k4).alloc _
      | exact (((Keeps.refl [] w).drew).alloc _).trans k4
      | exact ((((Keeps.refl [] w).drew).trans k4).alloc _).drew

set_option maxHeartbeats 1600000 in
set_option maxRecDepth 100000 in
theorem head_0_8 (v : Nat) (h1 : 4294967296 ≤ v) (h2 : v < 18446744073709551616) (w : World) :
    Calls Try.prog 15 #[.int .i64 0, .int .u64 v] w fun r w' => r = .returned (.string (⟨#[27]⟩ ++ bytesOf (bigB v 8))) ∧ Keeps [] w w' := by
  have hconv : ∀ (W : World) (g : Nat), W.cell? ⟨g, 0, none⟩ = some (.int .u8 27) → (convert 41 9 (.slice (some ⟨g, 0, none⟩) 1 1)).run Try.prog W = .ok (.string ⟨#[27]⟩) W := fun W g hg =>
    run_convert_bytes_back W 41 9 5 ⟨g, 0, none⟩ 1 [27] Try.underlying41 Try.underlying5 Try.underlying9 (fun j hj => by
      obtain rfl : j = 0 := by simp at hj; omega
      exact hg)
  have hconvA : ∀ (W : World) (t : TypeId), (convert 41 9 (.slice (some ⟨W.heap.size, 0, none⟩) 1 1)).run Try.prog (W.alloc (.cells #[.int .u8 27] t)) = .ok (.string ⟨#[27]⟩) (W.alloc (.cells #[.int .u8 27] t)) := fun W t =>
    hconv _ _ ((Has.new' W #[.int .u8 27] t rfl).cell 0)
  have hconvB : ∀ (W : World) (t : TypeId), (convert 41 9 (.slice (some ⟨W.heap.size, 0, none⟩) 1 1)).run Try.prog (W.alloc (.cells #[.int .u8 27] t)).drew = .ok (.string ⟨#[27]⟩) (W.alloc (.cells #[.int .u8 27] t)).drew := fun W t =>
    hconv _ _ ((Has.new' W #[.int .u8 27] t rfl).cell 0)
  have hwc : IntKind.u8.wrap 27 = 27 := by decide
  have HCONV := Lib.hid hconv
  have HBIG := Lib.hid (fun W => big_any v 8 (by omega) (by omega) W)
  have f0 : ¬ (v : Int) < 24 := by omega
  have f1 : ¬ (v : Int) < 256 := by omega
  have f2 : ¬ (v : Int) < 65536 := by omega
  have f3 : ¬ (v : Int) < 4294967296 := by omega
  clear hconv h1 h2
  go_enter Try.func15, Try.ntmps15
  go_wp2_with fail
  clear f0 f1 f2 f3
  go_region_held (fun _ => True) (trivial) ((go_at_call 22; refine (HBIG.out _).mono ?_; rintro e w4 ⟨rfl, k4⟩; try have c4 := HCONV.out w4 w.heap.size (k4.cell ((Has.new' w #[.int .u8 27] _ rfl).cell 0) (by simp))))
  all_goals
    go_wp2_with fail
    go_ret
    refine ⟨rfl, ?_⟩
    first
      | exact (((Keeps.refl [] w).alloc _).drew).trans k4
      | exact (((Keeps.refl [] w).drew).trans k4).alloc _
      | exact (((Keeps.refl [] w).drew).alloc _).trans k4
      | exact ((((Keeps.refl [] w).drew).trans k4).alloc _).drew

set_option maxHeartbeats 1600000 in
set_option maxRecDepth 100000 in
theorem head_1_0 (v : Nat) (h2 : v < 24) (w : World) :
    Calls Try.prog 15 #[.int .i64 1, .int .u64 v] w fun r w' => r = .returned (.string (bytesOf [UInt8.ofNat (32 + v)])) ∧ Keeps [] w w' := by
  obtain ⟨x, hx⟩ : ∃ x : Int, x = 32 + (v : Int) := ⟨_, rfl⟩
  have hs : strOfNums [x] = bytesOf [UInt8.ofNat (32 + v)] := by
    rw [show x = ((32 + v : Nat) : Int) by omega]; rfl
  have hconv := fun (W : World) (n : Nat) (hn : n = W.heap.size) => run_bytes_lit (P := Try.prog) 41 9 5 Try.underlying41 Try.underlying5 Try.underlying9 [x] W n hn
  simp only [List.length_cons, List.length_nil, List.map_cons, List.map_nil, Nat.zero_add] at hconv
  have HC := hconv w w.heap.size rfl
  have hw1 : IntKind.u8.wrap (v : Int) = v := by simp [IntKind.wrap, IntKind.bits, IntKind.signed]; omega
  have hw2 : IntKind.u8.wrap (32 + (v : Int)) = x := by rw [hx]; simp [IntKind.wrap, IntKind.bits, IntKind.signed]; omega
  have HS := Lib.hid hs
  have hv2 : (v : Int) < 24 := by omega
  clear hx hs hconv h2
  go_enter Try.func15, Try.ntmps15
  go_wp2_with fail
  go_ret
  exact ⟨by first | rfl | (rw [← HS.out] <;> rfl) | (rw [HS.out] <;> rfl), (Keeps.refl [] w).alloc _⟩

set_option maxHeartbeats 1600000 in
set_option maxRecDepth 100000 in
theorem head_1_1 (v : Nat) (h1 : 24 ≤ v) (h2 : v < 256) (w : World) :
    Calls Try.prog 15 #[.int .i64 1, .int .u64 v] w fun r w' => r = .returned (.string (⟨#[56]⟩ ++ bytesOf (bigB v 1))) ∧ Keeps [] w w' := by
  have hconv : ∀ (W : World) (g : Nat), W.cell? ⟨g, 0, none⟩ = some (.int .u8 56) → (convert 41 9 (.slice (some ⟨g, 0, none⟩) 1 1)).run Try.prog W = .ok (.string ⟨#[56]⟩) W := fun W g hg =>
    run_convert_bytes_back W 41 9 5 ⟨g, 0, none⟩ 1 [56] Try.underlying41 Try.underlying5 Try.underlying9 (fun j hj => by
      obtain rfl : j = 0 := by simp at hj; omega
      exact hg)
  have hconvA : ∀ (W : World) (t : TypeId), (convert 41 9 (.slice (some ⟨W.heap.size, 0, none⟩) 1 1)).run Try.prog (W.alloc (.cells #[.int .u8 56] t)) = .ok (.string ⟨#[56]⟩) (W.alloc (.cells #[.int .u8 56] t)) := fun W t =>
    hconv _ _ ((Has.new' W #[.int .u8 56] t rfl).cell 0)
  have hconvB : ∀ (W : World) (t : TypeId), (convert 41 9 (.slice (some ⟨W.heap.size, 0, none⟩) 1 1)).run Try.prog (W.alloc (.cells #[.int .u8 56] t)).drew = .ok (.string ⟨#[56]⟩) (W.alloc (.cells #[.int .u8 56] t)).drew := fun W t =>
    hconv _ _ ((Has.new' W #[.int .u8 56] t rfl).cell 0)
  have hwc : IntKind.u8.wrap 56 = 56 := by decide
  have HCONV := Lib.hid hconv
  have HBIG := Lib.hid (fun W => big_any v 1 (by omega) (by omega) W)
  have f0 : ¬ (v : Int) < 24 := by omega
  have f1 : (v : Int) < 256 := by omega
  clear hconv h1 h2
  go_enter Try.func15, Try.ntmps15
  go_wp2_with fail
  clear f0 f1
  go_region_held (fun _ => True) (trivial) ((go_at_call 22; refine (HBIG.out _).mono ?_; rintro e w4 ⟨rfl, k4⟩; try have c4 := HCONV.out w4 w.heap.size (k4.cell ((Has.new' w #[.int .u8 56] _ rfl).cell 0) (by simp))))
  all_goals
    go_wp2_with fail
    go_ret
    refine ⟨rfl, ?_⟩
    first
      | exact (((Keeps.refl [] w).alloc _).drew).trans k4
      | exact (((Keeps.refl [] w).drew).trans k4).alloc _
      | exact (((Keeps.refl [] w).drew).alloc _).trans k4
      | exact ((((Keeps.refl [] w).drew).trans k4).alloc _).drew

set_option maxHeartbeats 1600000 in
set_option maxRecDepth 100000 in
theorem head_1_2 (v : Nat) (h1 : 256 ≤ v) (h2 : v < 65536) (w : World) :
    Calls Try.prog 15 #[.int .i64 1, .int .u64 v] w fun r w' => r = .returned (.string (⟨#[57]⟩ ++ bytesOf (bigB v 2))) ∧ Keeps [] w w' := by
  have hconv : ∀ (W : World) (g : Nat), W.cell? ⟨g, 0, none⟩ = some (.int .u8 57) → (convert 41 9 (.slice (some ⟨g, 0, none⟩) 1 1)).run Try.prog W = .ok (.string ⟨#[57]⟩) W := fun W g hg =>
    run_convert_bytes_back W 41 9 5 ⟨g, 0, none⟩ 1 [57] Try.underlying41 Try.underlying5 Try.underlying9 (fun j hj => by
      obtain rfl : j = 0 := by simp at hj; omega
      exact hg)
  have hconvA : ∀ (W : World) (t : TypeId), (convert 41 9 (.slice (some ⟨W.heap.size, 0, none⟩) 1 1)).run Try.prog (W.alloc (.cells #[.int .u8 57] t)) = .ok (.string ⟨#[57]⟩) (W.alloc (.cells #[.int .u8 57] t)) := fun W t =>
    hconv _ _ ((Has.new' W #[.int .u8 57] t rfl).cell 0)
  have hconvB : ∀ (W : World) (t : TypeId), (convert 41 9 (.slice (some ⟨W.heap.size, 0, none⟩) 1 1)).run Try.prog (W.alloc (.cells #[.int .u8 57] t)).drew = .ok (.string ⟨#[57]⟩) (W.alloc (.cells #[.int .u8 57] t)).drew := fun W t =>
    hconv _ _ ((Has.new' W #[.int .u8 57] t rfl).cell 0)
  have hwc : IntKind.u8.wrap 57 = 57 := by decide
  have HCONV := Lib.hid hconv
  have HBIG := Lib.hid (fun W => big_any v 2 (by omega) (by omega) W)
  have f0 : ¬ (v : Int) < 24 := by omega
  have f1 : ¬ (v : Int) < 256 := by omega
  have f2 : (v : Int) < 65536 := by omega
  clear hconv h1 h2
  go_enter Try.func15, Try.ntmps15
  go_wp2_with fail
  clear f0 f1 f2
  go_region_held (fun _ => True) (trivial) ((go_at_call 22; refine (HBIG.out _).mono ?_; rintro e w4 ⟨rfl, k4⟩; try have c4 := HCONV.out w4 w.heap.size (k4.cell ((Has.new' w #[.int .u8 57] _ rfl).cell 0) (by simp))))
  all_goals
    go_wp2_with fail
    go_ret
    refine ⟨rfl, ?_⟩
    first
      | exact (((Keeps.refl [] w).alloc _).drew).trans k4
      | exact (((Keeps.refl [] w).drew).trans k4).alloc _
      | exact (((Keeps.refl [] w).drew).alloc _).trans k4
      | exact ((((Keeps.refl [] w).drew).trans k4).alloc _).drew

set_option maxHeartbeats 1600000 in
set_option maxRecDepth 100000 in
theorem head_1_4 (v : Nat) (h1 : 65536 ≤ v) (h2 : v < 4294967296) (w : World) :
    Calls Try.prog 15 #[.int .i64 1, .int .u64 v] w fun r w' => r = .returned (.string (⟨#[58]⟩ ++ bytesOf (bigB v 4))) ∧ Keeps [] w w' := by
  have hconv : ∀ (W : World) (g : Nat), W.cell? ⟨g, 0, none⟩ = some (.int .u8 58) → (convert 41 9 (.slice (some ⟨g, 0, none⟩) 1 1)).run Try.prog W = .ok (.string ⟨#[58]⟩) W := fun W g hg =>
    run_convert_bytes_back W 41 9 5 ⟨g, 0, none⟩ 1 [58] Try.underlying41 Try.underlying5 Try.underlying9 (fun j hj => by
      obtain rfl : j = 0 := by simp at hj; omega
      exact hg)
  have hconvA : ∀ (W : World) (t : TypeId), (convert 41 9 (.slice (some ⟨W.heap.size, 0, none⟩) 1 1)).run Try.prog (W.alloc (.cells #[.int .u8 58] t)) = .ok (.string ⟨#[58]⟩) (W.alloc (.cells #[.int .u8 58] t)) := fun W t =>
    hconv _ _ ((Has.new' W #[.int .u8 58] t rfl).cell 0)
  have hconvB : ∀ (W : World) (t : TypeId), (convert 41 9 (.slice (some ⟨W.heap.size, 0, none⟩) 1 1)).run Try.prog (W.alloc (.cells #[.int .u8 58] t)).drew = .ok (.string ⟨#[58]⟩) (W.alloc (.cells #[.int .u8 58] t)).drew := fun W t =>
    hconv _ _ ((Has.new' W #[.int .u8 58] t rfl).cell 0)
  have hwc : IntKind.u8.wrap 58 = 58 := by decide
  have HCONV := Lib.hid hconv
  have HBIG := Lib.hid (fun W => big_any v 4 (by omega) (by omega) W)
  have f0 : ¬ (v : Int) < 24 := by omega
  have f1 : ¬ (v : Int) < 256 := by omega
  have f2 : ¬ (v : Int) < 65536 := by omega
  have f3 : (v : Int) < 4294967296 := by omega
  clear hconv h1 h2
  go_enter Try.func15, Try.ntmps15
  go_wp2_with fail
  clear f0 f1 f2 f3
  go_region_held (fun _ => True) (trivial) ((go_at_call 22; refine (HBIG.out _).mono ?_; rintro e w4 ⟨rfl, k4⟩; try have c4 := HCONV.out w4 w.heap.size (k4.cell ((Has.new' w #[.int .u8 58] _ rfl).cell 0) (by simp))))
  all_goals
    go_wp2_with fail
    go_ret
    refine ⟨rfl, ?_⟩
    first
      | exact (((Keeps.refl [] w).alloc _).drew).trans k4
      | exact (((Keeps.refl [] w).drew).trans k4).alloc _
      | exact (((Keeps.refl [] w).drew).alloc _).trans k4
      | exact ((((Keeps.refl [] w).drew).trans k4).alloc _).drew

set_option maxHeartbeats 1600000 in
set_option maxRecDepth 100000 in
theorem head_1_8 (v : Nat) (h1 : 4294967296 ≤ v) (h2 : v < 18446744073709551616) (w : World) :
    Calls Try.prog 15 #[.int .i64 1, .int .u64 v] w fun r w' => r = .returned (.string (⟨#[59]⟩ ++ bytesOf (bigB v 8))) ∧ Keeps [] w w' := by
  have hconv : ∀ (W : World) (g : Nat), W.cell? ⟨g, 0, none⟩ = some (.int .u8 59) → (convert 41 9 (.slice (some ⟨g, 0, none⟩) 1 1)).run Try.prog W = .ok (.string ⟨#[59]⟩) W := fun W g hg =>
    run_convert_bytes_back W 41 9 5 ⟨g, 0, none⟩ 1 [59] Try.underlying41 Try.underlying5 Try.underlying9 (fun j hj => by
      obtain rfl : j = 0 := by simp at hj; omega
      exact hg)
  have hconvA : ∀ (W : World) (t : TypeId), (convert 41 9 (.slice (some ⟨W.heap.size, 0, none⟩) 1 1)).run Try.prog (W.alloc (.cells #[.int .u8 59] t)) = .ok (.string ⟨#[59]⟩) (W.alloc (.cells #[.int .u8 59] t)) := fun W t =>
    hconv _ _ ((Has.new' W #[.int .u8 59] t rfl).cell 0)
  have hconvB : ∀ (W : World) (t : TypeId), (convert 41 9 (.slice (some ⟨W.heap.size, 0, none⟩) 1 1)).run Try.prog (W.alloc (.cells #[.int .u8 59] t)).drew = .ok (.string ⟨#[59]⟩) (W.alloc (.cells #[.int .u8 59] t)).drew := fun W t =>
    hconv _ _ ((Has.new' W #[.int .u8 59] t rfl).cell 0)
  have hwc : IntKind.u8.wrap 59 = 59 := by decide
  have HCONV := Lib.hid hconv
  have HBIG := Lib.hid (fun W => big_any v 8 (by omega) (by omega) W)
  have f0 : ¬ (v : Int) < 24 := by omega
  have f1 : ¬ (v : Int) < 256 := by omega
  have f2 : ¬ (v : Int) < 65536 := by omega
  have f3 : ¬ (v : Int) < 4294967296 := by omega
  clear hconv h1 h2
  go_enter Try.func15, Try.ntmps15
  go_wp2_with fail
  clear f0 f1 f2 f3
  go_region_held (fun _ => True) (trivial) ((go_at_call 22; refine (HBIG.out _).mono ?_; rintro e w4 ⟨rfl, k4⟩; try have c4 := HCONV.out w4 w.heap.size (k4.cell ((Has.new' w #[.int .u8 59] _ rfl).cell 0) (by simp))))
  all_goals
    go_wp2_with fail
    go_ret
    refine ⟨rfl, ?_⟩
    first
      | exact (((Keeps.refl [] w).alloc _).drew).trans k4
      | exact (((Keeps.refl [] w).drew).trans k4).alloc _
      | exact (((Keeps.refl [] w).drew).alloc _).trans k4
      | exact ((((Keeps.refl [] w).drew).trans k4).alloc _).drew

end Go.Proofs.Ytdfdajedcgmbfaa
