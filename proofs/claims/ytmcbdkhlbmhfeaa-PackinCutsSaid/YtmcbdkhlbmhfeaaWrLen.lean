/-
  truchmanref1.length: its contract for texts and bytes below 65536.
-/
import Derived.Test.YtmcbdkhlbmhfeaaPackOne
import Derived.Deep.RegionHeld
namespace Go.Proofs.Ytmcbdkhlbmhfeaa
open Go.RowKit Go.Tru

set_option maxHeartbeats 1600000 in
set_option maxRecDepth 100000 in
theorem length_217_1 (v : Nat) (h1 : 0 ≤ v) (h2 : v < 256) (w : World) :
    Calls Try.prog 23 #[.int .u64 v, .int .u8 217, .int .u8 218, .int .u8 219] w fun r w' => r = .returned (.string (bytesOf (217 :: bigB v 1))) ∧ Keeps [] w w' := by
  rw [← str_cons]
  have hconv : ∀ (W : World) (g : Nat), W.cell? ⟨g, 0, none⟩ = some (.int .u8 217) → (convert 40 9 (.slice (some ⟨g, 0, none⟩) 1 1)).run Try.prog W = .ok (.string ⟨#[217]⟩) W := fun W g hg =>
    run_convert_bytes_back W 40 9 5 ⟨g, 0, none⟩ 1 [217] Try.underlying40 Try.underlying5 Try.underlying9 (fun j hj => by
      obtain rfl : j = 0 := by simp at hj; omega
      exact hg)
  have hconvA : ∀ (W : World) (t : TypeId), (convert 40 9 (.slice (some ⟨W.heap.size, 0, none⟩) 1 1)).run Try.prog (W.alloc (.cells #[.int .u8 217] t)) = .ok (.string ⟨#[217]⟩) (W.alloc (.cells #[.int .u8 217] t)) := fun W t =>
    hconv _ _ ((Has.new' W #[.int .u8 217] t rfl).cell 0)
  have hconvB : ∀ (W : World) (t : TypeId), (convert 40 9 (.slice (some ⟨W.heap.size, 0, none⟩) 1 1)).run Try.prog (W.alloc (.cells #[.int .u8 217] t)).drew = .ok (.string ⟨#[217]⟩) (W.alloc (.cells #[.int .u8 217] t)).drew := fun W t =>
    hconv _ _ ((Has.new' W #[.int .u8 217] t rfl).cell 0)
  have HCONV := Lib.hid hconv
  have HBIG := Lib.hid (fun W => big_any v 1 (by omega) (by omega) W)
  have f0 : (v : Int) < 256 := by omega
  clear hconv h1 h2
  go_enter Try.func23, Try.ntmps23
  go_wp2_with fail
  clear f0
  go_region_held (fun _ => True) (trivial) ((go_at_call 13; refine (HBIG.out _).mono ?_; rintro e w4 ⟨rfl, k4⟩; try have c4 := HCONV.out w4 w.heap.size (k4.cell ((Has.new' w #[.int .u8 217] _ rfl).cell 0) (by simp))))
  all_goals
    go_wp2_with fail
    go_ret
    refine ⟨rfl, ?_⟩
    first
      | exact (((Keeps.refl [] w).alloc _).drew).trans k4
      | exact (((Keeps.refl [] w).drew).trans k4).alloc _
      | exact (((Keeps.refl [] w).drew).alloc _).trans k4
      | exact ((((Keeps.refl [] w).drew).trans k4).alloc _).drew

set_option maxHeartbeats 1600000 in
set_option maxRecDepth 100000 in
theorem length_217_2 (v : Nat) (h1 : 256 ≤ v) (h2 : v < 65536) (w : World) :
    Calls Try.prog 23 #[.int .u64 v, .int .u8 217, .int .u8 218, .int .u8 219] w fun r w' => r = .returned (.string (bytesOf (218 :: bigB v 2))) ∧ Keeps [] w w' := by
  rw [← str_cons]
  have hconv : ∀ (W : World) (g : Nat), W.cell? ⟨g, 0, none⟩ = some (.int .u8 218) → (convert 40 9 (.slice (some ⟨g, 0, none⟩) 1 1)).run Try.prog W = .ok (.string ⟨#[218]⟩) W := fun W g hg =>
    run_convert_bytes_back W 40 9 5 ⟨g, 0, none⟩ 1 [218] Try.underlying40 Try.underlying5 Try.underlying9 (fun j hj => by
      obtain rfl : j = 0 := by simp at hj; omega
      exact hg)
  have hconvA : ∀ (W : World) (t : TypeId), (convert 40 9 (.slice (some ⟨W.heap.size, 0, none⟩) 1 1)).run Try.prog (W.alloc (.cells #[.int .u8 218] t)) = .ok (.string ⟨#[218]⟩) (W.alloc (.cells #[.int .u8 218] t)) := fun W t =>
    hconv _ _ ((Has.new' W #[.int .u8 218] t rfl).cell 0)
  have hconvB : ∀ (W : World) (t : TypeId), (convert 40 9 (.slice (some ⟨W.heap.size, 0, none⟩) 1 1)).run Try.prog (W.alloc (.cells #[.int .u8 218] t)).drew = .ok (.string ⟨#[218]⟩) (W.alloc (.cells #[.int .u8 218] t)).drew := fun W t =>
    hconv _ _ ((Has.new' W #[.int .u8 218] t rfl).cell 0)
  have HCONV := Lib.hid hconv
  have HBIG := Lib.hid (fun W => big_any v 2 (by omega) (by omega) W)
  have f0 : ¬ (v : Int) < 256 := by omega
  have f1 : (v : Int) < 65536 := by omega
  clear hconv h1 h2
  go_enter Try.func23, Try.ntmps23
  go_wp2_with fail
  clear f0 f1
  go_region_held (fun _ => True) (trivial) ((go_at_call 13; refine (HBIG.out _).mono ?_; rintro e w4 ⟨rfl, k4⟩; try have c4 := HCONV.out w4 w.heap.size (k4.cell ((Has.new' w #[.int .u8 218] _ rfl).cell 0) (by simp))))
  all_goals
    go_wp2_with fail
    go_ret
    refine ⟨rfl, ?_⟩
    first
      | exact (((Keeps.refl [] w).alloc _).drew).trans k4
      | exact (((Keeps.refl [] w).drew).trans k4).alloc _
      | exact (((Keeps.refl [] w).drew).alloc _).trans k4
      | exact ((((Keeps.refl [] w).drew).trans k4).alloc _).drew

set_option maxHeartbeats 1600000 in
set_option maxRecDepth 100000 in
theorem length_196_1 (v : Nat) (h1 : 0 ≤ v) (h2 : v < 256) (w : World) :
    Calls Try.prog 23 #[.int .u64 v, .int .u8 196, .int .u8 197, .int .u8 198] w fun r w' => r = .returned (.string (bytesOf (196 :: bigB v 1))) ∧ Keeps [] w w' := by
  rw [← str_cons]
  have hconv : ∀ (W : World) (g : Nat), W.cell? ⟨g, 0, none⟩ = some (.int .u8 196) → (convert 40 9 (.slice (some ⟨g, 0, none⟩) 1 1)).run Try.prog W = .ok (.string ⟨#[196]⟩) W := fun W g hg =>
    run_convert_bytes_back W 40 9 5 ⟨g, 0, none⟩ 1 [196] Try.underlying40 Try.underlying5 Try.underlying9 (fun j hj => by
      obtain rfl : j = 0 := by simp at hj; omega
      exact hg)
  have hconvA : ∀ (W : World) (t : TypeId), (convert 40 9 (.slice (some ⟨W.heap.size, 0, none⟩) 1 1)).run Try.prog (W.alloc (.cells #[.int .u8 196] t)) = .ok (.string ⟨#[196]⟩) (W.alloc (.cells #[.int .u8 196] t)) := fun W t =>
    hconv _ _ ((Has.new' W #[.int .u8 196] t rfl).cell 0)
  have hconvB : ∀ (W : World) (t : TypeId), (convert 40 9 (.slice (some ⟨W.heap.size, 0, none⟩) 1 1)).run Try.prog (W.alloc (.cells #[.int .u8 196] t)).drew = .ok (.string ⟨#[196]⟩) (W.alloc (.cells #[.int .u8 196] t)).drew := fun W t =>
    hconv _ _ ((Has.new' W #[.int .u8 196] t rfl).cell 0)
  have HCONV := Lib.hid hconv
  have HBIG := Lib.hid (fun W => big_any v 1 (by omega) (by omega) W)
  have f0 : (v : Int) < 256 := by omega
  clear hconv h1 h2
  go_enter Try.func23, Try.ntmps23
  go_wp2_with fail
  clear f0
  go_region_held (fun _ => True) (trivial) ((go_at_call 13; refine (HBIG.out _).mono ?_; rintro e w4 ⟨rfl, k4⟩; try have c4 := HCONV.out w4 w.heap.size (k4.cell ((Has.new' w #[.int .u8 196] _ rfl).cell 0) (by simp))))
  all_goals
    go_wp2_with fail
    go_ret
    refine ⟨rfl, ?_⟩
    first
      | exact (((Keeps.refl [] w).alloc _).drew).trans k4
      | exact (((Keeps.refl [] w).drew).trans k4).alloc _
      | exact (((Keeps.refl [] w).drew).alloc _).trans k4
      | exact ((((Keeps.refl [] w).drew).trans k4).alloc _).drew

set_option maxHeartbeats 1600000 in
set_option maxRecDepth 100000 in
theorem length_196_2 (v : Nat) (h1 : 256 ≤ v) (h2 : v < 65536) (w : World) :
    Calls Try.prog 23 #[.int .u64 v, .int .u8 196, .int .u8 197, .int .u8 198] w fun r w' => r = .returned (.string (bytesOf (197 :: bigB v 2))) ∧ Keeps [] w w' := by
  rw [← str_cons]
  have hconv : ∀ (W : World) (g : Nat), W.cell? ⟨g, 0, none⟩ = some (.int .u8 197) → (convert 40 9 (.slice (some ⟨g, 0, none⟩) 1 1)).run Try.prog W = .ok (.string ⟨#[197]⟩) W := fun W g hg =>
    run_convert_bytes_back W 40 9 5 ⟨g, 0, none⟩ 1 [197] Try.underlying40 Try.underlying5 Try.underlying9 (fun j hj => by
      obtain rfl : j = 0 := by simp at hj; omega
      exact hg)
  have hconvA : ∀ (W : World) (t : TypeId), (convert 40 9 (.slice (some ⟨W.heap.size, 0, none⟩) 1 1)).run Try.prog (W.alloc (.cells #[.int .u8 197] t)) = .ok (.string ⟨#[197]⟩) (W.alloc (.cells #[.int .u8 197] t)) := fun W t =>
    hconv _ _ ((Has.new' W #[.int .u8 197] t rfl).cell 0)
  have hconvB : ∀ (W : World) (t : TypeId), (convert 40 9 (.slice (some ⟨W.heap.size, 0, none⟩) 1 1)).run Try.prog (W.alloc (.cells #[.int .u8 197] t)).drew = .ok (.string ⟨#[197]⟩) (W.alloc (.cells #[.int .u8 197] t)).drew := fun W t =>
    hconv _ _ ((Has.new' W #[.int .u8 197] t rfl).cell 0)
  have HCONV := Lib.hid hconv
  have HBIG := Lib.hid (fun W => big_any v 2 (by omega) (by omega) W)
  have f0 : ¬ (v : Int) < 256 := by omega
  have f1 : (v : Int) < 65536 := by omega
  clear hconv h1 h2
  go_enter Try.func23, Try.ntmps23
  go_wp2_with fail
  clear f0 f1
  go_region_held (fun _ => True) (trivial) ((go_at_call 13; refine (HBIG.out _).mono ?_; rintro e w4 ⟨rfl, k4⟩; try have c4 := HCONV.out w4 w.heap.size (k4.cell ((Has.new' w #[.int .u8 197] _ rfl).cell 0) (by simp))))
  all_goals
    go_wp2_with fail
    go_ret
    refine ⟨rfl, ?_⟩
    first
      | exact (((Keeps.refl [] w).alloc _).drew).trans k4
      | exact (((Keeps.refl [] w).drew).trans k4).alloc _
      | exact (((Keeps.refl [] w).drew).alloc _).trans k4
      | exact ((((Keeps.refl [] w).drew).trans k4).alloc _).drew

end Go.Proofs.Ytmcbdkhlbmhfeaa
