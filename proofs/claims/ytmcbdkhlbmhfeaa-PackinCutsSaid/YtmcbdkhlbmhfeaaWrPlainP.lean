/-
  truchmanref1.plain for MessagePack's texts and bytes: its contract.
-/
import Derived.Test.YtmcbdkhlbmhfeaaWrLen
import Derived.Test.YtmcbdkhlbmhfeaaEvMore
import Derived.Test.YtmcbdkhlbmhfeaaPackHd
namespace Go.Proofs.Ytmcbdkhlbmhfeaa
open Go.RowKit Go.Tru

set_option maxHeartbeats 800000 in
theorem plainP_short (t : ByteArray) (ht : t.size < 32) (w : World) : Calls Try.prog 24 #[.int .i64 3, (evText t).val] w fun r w' => r = .returned (.tuple #[.string (bytesOf [UInt8.ofNat (160 + t.size)] ++ t), .int .i64 0]) ∧ Keeps [] w w' := by
  simp only [Ev.val, Ev.cells, evText]
  obtain ⟨y, hy⟩ : ∃ y : Int, 160 + (t.size : Int) = y := ⟨_, rfl⟩
  have hwy : IntKind.u8.wrap y = y := by rw [← hy]; simp [IntKind.wrap, IntKind.bits, IntKind.signed]; omega
  have hys : strOfNums [y] = bytesOf [UInt8.ofNat (160 + t.size)] := by
    rw [← hy, show 160 + (t.size : Int) = ((160 + t.size : Nat) : Int) by simp]; rfl
  have hconv := fun (W : World) (n : Nat) (hn : n = W.heap.size) => run_bytes_lit (P := Try.prog) 40 9 5 Try.underlying40 Try.underlying5 Try.underlying9 [y] W n hn
  simp only [List.length_cons, List.length_nil, List.map_cons, List.map_nil, Nat.zero_add] at hconv
  rw [hys] at hconv
  obtain ⟨hb, hhb⟩ : ∃ hb, bytesOf [UInt8.ofNat (160 + t.size)] = hb := ⟨_, rfl⟩
  have hbs : hb.size = 1 := by rw [← hhb]; rfl
  rw [hhb] at hconv ⊢
  have h32 : (t.size : Int) < 32 := by omega
  have hc1 := hconv (w.alloc (.cells #[.int .i64 3, .bool false, .int .u64 0, .string t, .int .i64 0] 35)) (w.heap.size + 1) (by simp)
  clear hconv hys hhb
  go_enter Try.func24, Try.ntmps24
  go_wp2_with fail
  go_ret2
  exact ⟨rfl, ((Keeps.refl [] w).alloc _).alloc _⟩

set_option maxHeartbeats 800000 in
theorem plainP_text_1 (t : ByteArray) (h1 : 32 ≤ t.size) (ht : t.size < 256) (w : World) : Calls Try.prog 24 #[.int .i64 3, (evText t).val] w fun r w' => r = .returned (.tuple #[.string (bytesOf (217 :: bigB t.size 1) ++ t), .int .i64 0]) ∧ Keeps [] w w' := by
  simp only [Ev.val, Ev.cells, evText]
  have H := Lib.hid (fun W => length_217_1 t.size (by omega) (by omega) W)
  have hw : IntKind.u64.wrap (t.size : Int) = t.size := by simp [IntKind.wrap, IntKind.bits, IntKind.signed]; omega
  have h32 : ¬ (t.size : Int) < 32 := by omega
  have hsz : (bytesOf (217 :: bigB t.size 1)).size ≤ 9 := by rw [bytesOf_sz]; simp [bigB_len]
  have hts : t.size ≤ 70000 := by omega
  obtain ⟨hb, hhb⟩ : ∃ hb, bytesOf (217 :: bigB t.size 1) = hb := ⟨_, rfl⟩
  rw [hhb] at hsz H ⊢
  clear hhb h1 ht
  go_enter Try.func24, Try.ntmps24
  go_wp2_with fail
  have hnew := Has.new' w #[.int .i64 3, .bool false, .int .u64 0, .string t, .int .i64 0] 35 rfl
  have k0 := (Keeps.refl [] w).alloc (.cells #[.int .i64 3, .bool false, .int .u64 0, .string t, .int .i64 0] 35)
  obtain ⟨w1, hw1⟩ : ∃ w1, w.alloc (.cells #[.int .i64 3, .bool false, .int .u64 0, .string t, .int .i64 0] 35) = w1 := ⟨_, rfl⟩
  rw [hw1] at hnew k0
  rw [hw1]
  have c3 : w1.cell? ⟨w.heap.size, 3, none⟩ = some (.string t) := hnew.cell 3
  have K0 := Lib.hid k0
  clear hw1 hnew k0
  go_region_held (fun W => W.cell? ⟨w.heap.size, 3, none⟩ = some (.string t)) (go_keep) ((go_at_call 23; refine (H.out _).mono ?_; rintro e w4 ⟨rfl, k4⟩; have d3 := k4.cell (p := ⟨w.heap.size, 3, none⟩) c3 (by simp)))
  all_goals
    have K4 := Lib.hid (K0.out.drew.trans k4)
    go_wp2_with fail
    go_ret2
    exact ⟨rfl, K4.out⟩

set_option maxHeartbeats 800000 in
theorem plainP_text_2 (t : ByteArray) (h1 : 256 ≤ t.size) (ht : t.size < 65536) (w : World) : Calls Try.prog 24 #[.int .i64 3, (evText t).val] w fun r w' => r = .returned (.tuple #[.string (bytesOf (218 :: bigB t.size 2) ++ t), .int .i64 0]) ∧ Keeps [] w w' := by
  simp only [Ev.val, Ev.cells, evText]
  have H := Lib.hid (fun W => length_217_2 t.size (by omega) (by omega) W)
  have hw : IntKind.u64.wrap (t.size : Int) = t.size := by simp [IntKind.wrap, IntKind.bits, IntKind.signed]; omega
  have h32 : ¬ (t.size : Int) < 32 := by omega
  have hsz : (bytesOf (218 :: bigB t.size 2)).size ≤ 9 := by rw [bytesOf_sz]; simp [bigB_len]
  have hts : t.size ≤ 70000 := by omega
  obtain ⟨hb, hhb⟩ : ∃ hb, bytesOf (218 :: bigB t.size 2) = hb := ⟨_, rfl⟩
  rw [hhb] at hsz H ⊢
  clear hhb h1 ht
  go_enter Try.func24, Try.ntmps24
  go_wp2_with fail
  have hnew := Has.new' w #[.int .i64 3, .bool false, .int .u64 0, .string t, .int .i64 0] 35 rfl
  have k0 := (Keeps.refl [] w).alloc (.cells #[.int .i64 3, .bool false, .int .u64 0, .string t, .int .i64 0] 35)
  obtain ⟨w1, hw1⟩ : ∃ w1, w.alloc (.cells #[.int .i64 3, .bool false, .int .u64 0, .string t, .int .i64 0] 35) = w1 := ⟨_, rfl⟩
  rw [hw1] at hnew k0
  rw [hw1]
  have c3 : w1.cell? ⟨w.heap.size, 3, none⟩ = some (.string t) := hnew.cell 3
  have K0 := Lib.hid k0
  clear hw1 hnew k0
  go_region_held (fun W => W.cell? ⟨w.heap.size, 3, none⟩ = some (.string t)) (go_keep) ((go_at_call 23; refine (H.out _).mono ?_; rintro e w4 ⟨rfl, k4⟩; have d3 := k4.cell (p := ⟨w.heap.size, 3, none⟩) c3 (by simp)))
  all_goals
    have K4 := Lib.hid (K0.out.drew.trans k4)
    go_wp2_with fail
    go_ret2
    exact ⟨rfl, K4.out⟩

set_option maxHeartbeats 800000 in
theorem plainP_bytes_1 (t : ByteArray) (h1 : 0 ≤ t.size) (ht : t.size < 256) (w : World) : Calls Try.prog 24 #[.int .i64 3, (evBytes t).val] w fun r w' => r = .returned (.tuple #[.string (bytesOf (196 :: bigB t.size 1) ++ t), .int .i64 0]) ∧ Keeps [] w w' := by
  simp only [Ev.val, Ev.cells, evBytes]
  have H := Lib.hid (fun W => length_196_1 t.size (by omega) (by omega) W)
  have hw : IntKind.u64.wrap (t.size : Int) = t.size := by simp [IntKind.wrap, IntKind.bits, IntKind.signed]; omega
  have hsz : (bytesOf (196 :: bigB t.size 1)).size ≤ 9 := by rw [bytesOf_sz]; simp [bigB_len]
  have hts : t.size ≤ 70000 := by omega
  obtain ⟨hb, hhb⟩ : ∃ hb, bytesOf (196 :: bigB t.size 1) = hb := ⟨_, rfl⟩
  rw [hhb] at hsz H ⊢
  clear hhb h1 ht
  go_enter Try.func24, Try.ntmps24
  go_wp2_with fail
  have hnew := Has.new' w #[.int .i64 4, .bool false, .int .u64 0, .string t, .int .i64 0] 35 rfl
  have k0 := (Keeps.refl [] w).alloc (.cells #[.int .i64 4, .bool false, .int .u64 0, .string t, .int .i64 0] 35)
  obtain ⟨w1, hw1⟩ : ∃ w1, w.alloc (.cells #[.int .i64 4, .bool false, .int .u64 0, .string t, .int .i64 0] 35) = w1 := ⟨_, rfl⟩
  rw [hw1] at hnew k0
  rw [hw1]
  have c3 : w1.cell? ⟨w.heap.size, 3, none⟩ = some (.string t) := hnew.cell 3
  have K0 := Lib.hid k0
  clear hw1 hnew k0
  go_region_held (fun W => W.cell? ⟨w.heap.size, 3, none⟩ = some (.string t)) (go_keep) ((go_at_call 23; refine (H.out _).mono ?_; rintro e w4 ⟨rfl, k4⟩; have d3 := k4.cell (p := ⟨w.heap.size, 3, none⟩) c3 (by simp)))
  all_goals
    have K4 := Lib.hid (K0.out.drew.trans k4)
    go_wp2_with fail
    go_ret2
    exact ⟨rfl, K4.out⟩

set_option maxHeartbeats 800000 in
theorem plainP_bytes_2 (t : ByteArray) (h1 : 256 ≤ t.size) (ht : t.size < 65536) (w : World) : Calls Try.prog 24 #[.int .i64 3, (evBytes t).val] w fun r w' => r = .returned (.tuple #[.string (bytesOf (197 :: bigB t.size 2) ++ t), .int .i64 0]) ∧ Keeps [] w w' := by
  simp only [Ev.val, Ev.cells, evBytes]
  have H := Lib.hid (fun W => length_196_2 t.size (by omega) (by omega) W)
  have hw : IntKind.u64.wrap (t.size : Int) = t.size := by simp [IntKind.wrap, IntKind.bits, IntKind.signed]; omega
  have hsz : (bytesOf (197 :: bigB t.size 2)).size ≤ 9 := by rw [bytesOf_sz]; simp [bigB_len]
  have hts : t.size ≤ 70000 := by omega
  obtain ⟨hb, hhb⟩ : ∃ hb, bytesOf (197 :: bigB t.size 2) = hb := ⟨_, rfl⟩
  rw [hhb] at hsz H ⊢
  clear hhb h1 ht
  go_enter Try.func24, Try.ntmps24
  go_wp2_with fail
  have hnew := Has.new' w #[.int .i64 4, .bool false, .int .u64 0, .string t, .int .i64 0] 35 rfl
  have k0 := (Keeps.refl [] w).alloc (.cells #[.int .i64 4, .bool false, .int .u64 0, .string t, .int .i64 0] 35)
  obtain ⟨w1, hw1⟩ : ∃ w1, w.alloc (.cells #[.int .i64 4, .bool false, .int .u64 0, .string t, .int .i64 0] 35) = w1 := ⟨_, rfl⟩
  rw [hw1] at hnew k0
  rw [hw1]
  have c3 : w1.cell? ⟨w.heap.size, 3, none⟩ = some (.string t) := hnew.cell 3
  have K0 := Lib.hid k0
  clear hw1 hnew k0
  go_region_held (fun W => W.cell? ⟨w.heap.size, 3, none⟩ = some (.string t)) (go_keep) ((go_at_call 23; refine (H.out _).mono ?_; rintro e w4 ⟨rfl, k4⟩; have d3 := k4.cell (p := ⟨w.heap.size, 3, none⟩) c3 (by simp)))
  all_goals
    have K4 := Lib.hid (K0.out.drew.trans k4)
    go_wp2_with fail
    go_ret2
    exact ⟨rfl, K4.out⟩

/-- a text -/
theorem plainP_text (t : ByteArray) (ht : t.size ≤ 1000) (w : World) : Calls Try.prog 24 #[.int .i64 3, (evText t).val] w fun r w' => r = .returned (.tuple #[.string (bytesOf (pHead true t.size) ++ t), .int .i64 0]) ∧ Keeps [] w w' := by
  unfold pHead
  by_cases h1 : t.size < 32
  · rw [if_pos ⟨rfl, h1⟩]; exact plainP_short t h1 w
  rw [if_neg (fun h => h1 h.2)]
  by_cases h2 : t.size < 256
  · rw [if_pos h2, if_pos rfl]; exact plainP_text_1 t (by omega) h2 w
  · rw [if_neg h2, if_pos rfl]; exact plainP_text_2 t (by omega) (by omega) w

/-- bytes -/
theorem plainP_bytes (t : ByteArray) (ht : t.size ≤ 1000) (w : World) : Calls Try.prog 24 #[.int .i64 3, (evBytes t).val] w fun r w' => r = .returned (.tuple #[.string (bytesOf (pHead false t.size) ++ t), .int .i64 0]) ∧ Keeps [] w w' := by
  unfold pHead
  rw [if_neg (by simp)]
  by_cases h2 : t.size < 256
  · rw [if_pos h2, if_neg (by simp)]; exact plainP_bytes_1 t (by omega) h2 w
  · rw [if_neg h2, if_neg (by simp)]; exact plainP_bytes_2 t (by omega) (by omega) w
end Go.Proofs.Ytmcbdkhlbmhfeaa
