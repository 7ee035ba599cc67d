/-
  truchmanref1.Head: its contract for the majors 0 to 5.
-/
import Derived.Test.YtdfdajedcgmbfaaHead0
import Derived.Test.YtdfdajedcgmbfaaHead2
import Derived.Test.YtdfdajedcgmbfaaHead4
namespace Go.Tru
/-- truchmanref1.Head, plain -/
def headB (M v : Nat) : List UInt8 :=
  if v < 24 then [UInt8.ofNat (32 * M + v)]
  else if v < 256 then UInt8.ofNat (32 * M + 24) :: bigB v 1
  else if v < 65536 then UInt8.ofNat (32 * M + 25) :: bigB v 2
  else if v < 4294967296 then UInt8.ofNat (32 * M + 26) :: bigB v 4
  else UInt8.ofNat (32 * M + 27) :: bigB v 8

theorem headB_len (M v : Nat) : 1 ≤ (headB M v).length ∧ (headB M v).length ≤ 9 := by
  unfold headB
  repeat' split
  all_goals simp [bigB_len]

theorem str_cons (c : UInt8) (l : List UInt8) : (⟨#[c]⟩ : ByteArray) ++ bytesOf l = bytesOf (c :: l) := by
  apply ByteArray.ext
  rw [ByteArray.data_append]
  simp [bytesOf]
end Go.Tru
namespace Go.Proofs.Ytdfdajedcgmbfaa
open Go.RowKit Go.Tru

theorem head_as {f : Nat} {args : Array Value} {w : World} {a b : ByteArray} (h : Calls Try.prog f args w fun r w' => r = .returned (.string a) ∧ Keeps [] w w') (e : a = b) :
    Calls Try.prog f args w fun r w' => r = .returned (.string b) ∧ Keeps [] w w' := e ▸ h

theorem head_m0 (v : Nat) (hv : v < 18446744073709551616) (w : World) :
    Calls Try.prog 15 #[.int .i64 0, .int .u64 v] w fun r w' => r = .returned (.string (bytesOf (headB 0 v))) ∧ Keeps [] w w' := by
  unfold headB
  split
  · rename_i h
    exact head_as (head_0_0 v h w) rfl
  split
  · exact head_as (head_0_1 v (by omega) (by omega) w) (str_cons _ _)
  split
  · exact head_as (head_0_2 v (by omega) (by omega) w) (str_cons _ _)
  split
  · exact head_as (head_0_4 v (by omega) (by omega) w) (str_cons _ _)
  · exact head_as (head_0_8 v (by omega) (by omega) w) (str_cons _ _)

theorem head_m1 (v : Nat) (hv : v < 18446744073709551616) (w : World) :
    Calls Try.prog 15 #[.int .i64 1, .int .u64 v] w fun r w' => r = .returned (.string (bytesOf (headB 1 v))) ∧ Keeps [] w w' := by
  unfold headB
  split
  · rename_i h
    exact head_as (head_1_0 v h w) rfl
  split
  · exact head_as (head_1_1 v (by omega) (by omega) w) (str_cons _ _)
  split
  · exact head_as (head_1_2 v (by omega) (by omega) w) (str_cons _ _)
  split
  · exact head_as (head_1_4 v (by omega) (by omega) w) (str_cons _ _)
  · exact head_as (head_1_8 v (by omega) (by omega) w) (str_cons _ _)

theorem head_m2 (v : Nat) (hv : v < 18446744073709551616) (w : World) :
    Calls Try.prog 15 #[.int .i64 2, .int .u64 v] w fun r w' => r = .returned (.string (bytesOf (headB 2 v))) ∧ Keeps [] w w' := by
  unfold headB
  split
  · rename_i h
    exact head_as (head_2_0 v h w) rfl
  split
  · exact head_as (head_2_1 v (by omega) (by omega) w) (str_cons _ _)
  split
  · exact head_as (head_2_2 v (by omega) (by omega) w) (str_cons _ _)
  split
  · exact head_as (head_2_4 v (by omega) (by omega) w) (str_cons _ _)
  · exact head_as (head_2_8 v (by omega) (by omega) w) (str_cons _ _)

theorem head_m3 (v : Nat) (hv : v < 18446744073709551616) (w : World) :
    Calls Try.prog 15 #[.int .i64 3, .int .u64 v] w fun r w' => r = .returned (.string (bytesOf (headB 3 v))) ∧ Keeps [] w w' := by
  unfold headB
  split
  · rename_i h
    exact head_as (head_3_0 v h w) rfl
  split
  · exact head_as (head_3_1 v (by omega) (by omega) w) (str_cons _ _)
  split
  · exact head_as (head_3_2 v (by omega) (by omega) w) (str_cons _ _)
  split
  · exact head_as (head_3_4 v (by omega) (by omega) w) (str_cons _ _)
  · exact head_as (head_3_8 v (by omega) (by omega) w) (str_cons _ _)

theorem head_m4 (v : Nat) (hv : v < 18446744073709551616) (w : World) :
    Calls Try.prog 15 #[.int .i64 4, .int .u64 v] w fun r w' => r = .returned (.string (bytesOf (headB 4 v))) ∧ Keeps [] w w' := by
  unfold headB
  split
  · rename_i h
    exact head_as (head_4_0 v h w) rfl
  split
  · exact head_as (head_4_1 v (by omega) (by omega) w) (str_cons _ _)
  split
  · exact head_as (head_4_2 v (by omega) (by omega) w) (str_cons _ _)
  split
  · exact head_as (head_4_4 v (by omega) (by omega) w) (str_cons _ _)
  · exact head_as (head_4_8 v (by omega) (by omega) w) (str_cons _ _)

theorem head_m5 (v : Nat) (hv : v < 18446744073709551616) (w : World) :
    Calls Try.prog 15 #[.int .i64 5, .int .u64 v] w fun r w' => r = .returned (.string (bytesOf (headB 5 v))) ∧ Keeps [] w w' := by
  unfold headB
  split
  · rename_i h
    exact head_as (head_5_0 v h w) rfl
  split
  · exact head_as (head_5_1 v (by omega) (by omega) w) (str_cons _ _)
  split
  · exact head_as (head_5_2 v (by omega) (by omega) w) (str_cons _ _)
  split
  · exact head_as (head_5_4 v (by omega) (by omega) w) (str_cons _ _)
  · exact head_as (head_5_8 v (by omega) (by omega) w) (str_cons _ _)

theorem head_any (M v : Nat) (hM : M ≤ 5) (hv : v < 18446744073709551616) (w : World) :
    Calls Try.prog 15 #[.int .i64 M, .int .u64 v] w fun r w' => r = .returned (.string (bytesOf (headB M v))) ∧ Keeps [] w w' := by
  rcases (show M = 0 ∨ M = 1 ∨ M = 2 ∨ M = 3 ∨ M = 4 ∨ M = 5 by omega) with rfl | rfl | rfl | rfl | rfl | rfl
  · exact head_m0 v hv w
  · exact head_m1 v hv w
  · exact head_m2 v hv w
  · exact head_m3 v hv w
  · exact head_m4 v hv w
  · exact head_m5 v hv w
end Go.Proofs.Ytdfdajedcgmbfaa
