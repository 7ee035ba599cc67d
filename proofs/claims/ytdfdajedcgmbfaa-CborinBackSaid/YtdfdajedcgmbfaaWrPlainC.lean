/-
  truchmanref1.plain for CBOR: its contract.
-/
import Derived.Test.YtdfdajedcgmbfaaHead
import Derived.Test.YtdfdajedcgmbfaaEvMore
import Derived.Deep.RegionHeld
namespace Go.Tru
/-- a part that is no container, nor an end -/
def isLeaf (e : Ev) : Prop := e = evNull ∨ (∃ b, e = evBool b) ∨ (∃ b, ∃ m : Nat, m < 18446744073709551616 ∧ e = evInt b m) ∨ (∃ t : ByteArray, t.size ≤ 1000 ∧ e = evText t) ∨ (∃ t : ByteArray, t.size ≤ 1000 ∧ e = evBytes t)

/-- its CBOR -/
def leafC (e : Ev) : List UInt8 :=
  if e.kind = 0 then [246]
  else if e.kind = 1 then [if e.yes then 245 else 244]
  else if e.kind = 2 then headB (if e.yes then 1 else 0) e.mag.toNat
  else headB (if e.kind = 3 then 3 else 2) e.text.size ++ e.text.data.toList

theorem cat_bytes (l : List UInt8) (t : ByteArray) : bytesOf l ++ t = bytesOf (l ++ t.data.toList) := by
  apply ByteArray.ext
  rw [ByteArray.data_append]
  simp [bytesOf]
theorem bytesOf_sz (l : List UInt8) : (bytesOf l).size = l.length := by simp [bytesOf, ByteArray.size]
end Go.Tru
namespace Go.Proofs.Ytdfdajedcgmbfaa
open Go.RowKit Go.Tru

theorem plainC_null (w : World) : Calls Try.prog 17 #[.int .i64 2, evNull.val] w fun r w' => r = .returned (.tuple #[.string (bytesOf [246]), .int .i64 0]) ∧ Keeps [] w w' := by
  simp only [Ev.val, Ev.cells, evNull, noText]
  go_enter Try.func17, Try.ntmps17
  go_wp2_with fail
  go_ret2
  exact ⟨rfl, (Keeps.refl _ _).alloc _⟩

theorem plainC_bool (b : Bool) (w : World) : Calls Try.prog 17 #[.int .i64 2, (evBool b).val] w fun r w' => r = .returned (.tuple #[.string (bytesOf [if b then 245 else 244]), .int .i64 0]) ∧ Keeps [] w w' := by
  simp only [Ev.val, Ev.cells, evBool, noText]
  cases b
  all_goals
    go_enter Try.func17, Try.ntmps17
    go_wp2_with fail
    go_ret2
    exact ⟨rfl, (Keeps.refl _ _).alloc _⟩

theorem plainC_int (b : Bool) (m : Nat) (hm : m < 18446744073709551616) (w : World) : Calls Try.prog 17 #[.int .i64 2, (evInt b m).val] w fun r w' => r = .returned (.tuple #[.string (bytesOf (headB (if b then 1 else 0) m)), .int .i64 0]) ∧ Keeps [] w w' := by
  simp only [Ev.val, Ev.cells, evInt, noText]
  cases b
  · have H := Lib.hid (fun W => head_any 0 m (by omega) hm W)
    clear hm
    go_enter Try.func17, Try.ntmps17
    go_wp2_with fail
    refine (H.out _).mono ?_
    rintro e w1 ⟨rfl, k1⟩
    have K1 := Lib.hid (((Keeps.refl [] w).alloc _).trans k1)
    clear k1
    go_wp2_with fail
    go_ret2
    exact ⟨rfl, K1.out⟩
  · have H := Lib.hid (fun W => head_any 1 m (by omega) hm W)
    clear hm
    go_enter Try.func17, Try.ntmps17
    go_wp2_with fail
    refine (H.out _).mono ?_
    rintro e w1 ⟨rfl, k1⟩
    have K1 := Lib.hid (((Keeps.refl [] w).alloc _).trans k1)
    clear k1
    go_wp2_with fail
    go_ret2
    exact ⟨rfl, K1.out⟩

set_option maxHeartbeats 800000 in
theorem plainC_text (t : ByteArray) (ht : t.size ≤ 1000) (w : World) : Calls Try.prog 17 #[.int .i64 2, (evText t).val] w fun r w' => r = .returned (.tuple #[.string (bytesOf (headB 3 t.size) ++ t), .int .i64 0]) ∧ Keeps [] w w' := by
  simp only [Ev.val, Ev.cells, evText]
  have H := Lib.hid (fun W => head_any 3 t.size (by omega) (by omega) W)
  have hw : IntKind.u64.wrap (t.size : Int) = t.size := by simp [IntKind.wrap, IntKind.bits, IntKind.signed]; omega
  have hsz : (bytesOf (headB 3 t.size)).size ≤ 9 := by rw [bytesOf_sz]; exact (headB_len 3 t.size).2
  obtain ⟨hb, hhb⟩ : ∃ hb, bytesOf (headB 3 t.size) = hb := ⟨_, rfl⟩
  rw [hhb] at hsz H ⊢
  clear hhb
  go_enter Try.func17, Try.ntmps17
  go_wp2_with fail
  have hnew := Has.new' w #[.int .i64 3, .bool false, .int .u64 0, .string t, .int .i64 0] 36 rfl
  have k0 := (Keeps.refl [] w).alloc (.cells #[.int .i64 3, .bool false, .int .u64 0, .string t, .int .i64 0] 36)
  obtain ⟨w1, hw1⟩ : ∃ w1, w.alloc (.cells #[.int .i64 3, .bool false, .int .u64 0, .string t, .int .i64 0] 36) = w1 := ⟨_, rfl⟩
  rw [hw1] at hnew k0
  rw [hw1]
  have c3 : w1.cell? ⟨w.heap.size, 3, none⟩ = some (.string t) := hnew.cell 3
  have K0 := Lib.hid k0
  clear hw1 hnew k0
  go_region_held (fun W => W.cell? ⟨w.heap.size, 3, none⟩ = some (.string t)) (go_keep) ((go_at_call 15; refine (H.out _).mono ?_; rintro e w4 ⟨rfl, k4⟩; have d3 := k4.cell (p := ⟨w.heap.size, 3, none⟩) c3 (by simp)))
  all_goals
    have K4 := Lib.hid (K0.out.drew.trans k4)
    go_wp2_with fail
    go_ret2
    exact ⟨rfl, K4.out⟩

set_option maxHeartbeats 800000 in
theorem plainC_bytes (t : ByteArray) (ht : t.size ≤ 1000) (w : World) : Calls Try.prog 17 #[.int .i64 2, (evBytes t).val] w fun r w' => r = .returned (.tuple #[.string (bytesOf (headB 2 t.size) ++ t), .int .i64 0]) ∧ Keeps [] w w' := by
  simp only [Ev.val, Ev.cells, evBytes]
  have H := Lib.hid (fun W => head_any 2 t.size (by omega) (by omega) W)
  have hw : IntKind.u64.wrap (t.size : Int) = t.size := by simp [IntKind.wrap, IntKind.bits, IntKind.signed]; omega
  have hsz : (bytesOf (headB 2 t.size)).size ≤ 9 := by rw [bytesOf_sz]; exact (headB_len 2 t.size).2
  obtain ⟨hb, hhb⟩ : ∃ hb, bytesOf (headB 2 t.size) = hb := ⟨_, rfl⟩
  rw [hhb] at hsz H ⊢
  clear hhb
  go_enter Try.func17, Try.ntmps17
  go_wp2_with fail
  have hnew := Has.new' w #[.int .i64 4, .bool false, .int .u64 0, .string t, .int .i64 0] 36 rfl
  have k0 := (Keeps.refl [] w).alloc (.cells #[.int .i64 4, .bool false, .int .u64 0, .string t, .int .i64 0] 36)
  obtain ⟨w1, hw1⟩ : ∃ w1, w.alloc (.cells #[.int .i64 4, .bool false, .int .u64 0, .string t, .int .i64 0] 36) = w1 := ⟨_, rfl⟩
  rw [hw1] at hnew k0
  rw [hw1]
  have c3 : w1.cell? ⟨w.heap.size, 3, none⟩ = some (.string t) := hnew.cell 3
  have K0 := Lib.hid k0
  clear hw1 hnew k0
  go_region_held (fun W => W.cell? ⟨w.heap.size, 3, none⟩ = some (.string t)) (go_keep) ((go_at_call 15; refine (H.out _).mono ?_; rintro e w4 ⟨rfl, k4⟩; have d3 := k4.cell (p := ⟨w.heap.size, 3, none⟩) c3 (by simp)))
  all_goals
    have K4 := Lib.hid (K0.out.drew.trans k4)
    go_wp2_with fail
    go_ret2
    exact ⟨rfl, K4.out⟩

theorem plainC_any (e : Ev) (he : isLeaf e) (w : World) : Calls Try.prog 17 #[.int .i64 2, e.val] w fun r w' => r = .returned (.tuple #[.string (bytesOf (leafC e)), .int .i64 0]) ∧ Keeps [] w w' := by
  rcases he with rfl | ⟨b, rfl⟩ | ⟨b, m, hm, rfl⟩ | ⟨t, ht, rfl⟩ | ⟨t, ht, rfl⟩
  · exact plainC_null w
  · exact plainC_bool b w
  · exact plainC_int b m hm w
  · have := plainC_text t ht w
    rw [cat_bytes] at this
    exact this
  · have := plainC_bytes t ht w
    rw [cat_bytes] at this
    exact this
end Go.Proofs.Ytdfdajedcgmbfaa
