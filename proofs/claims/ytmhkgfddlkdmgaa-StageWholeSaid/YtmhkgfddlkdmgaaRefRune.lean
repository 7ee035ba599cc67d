/-
  truchmanref1.Rune and Write: their contracts.
-/
import Derived.Test.YtmhkgfddlkdmgaaRows
import Derived.Test.YtmhkgfddlkdmgaaEscModel
import Derived.Lib.Builder
import Derived.Lib.Strings
import Derived.Deep.QuietTactic
import Derived.Deep.RegionWith
namespace Go.Tru
theorem tx_app (a b : ByteArray) : (a ++ b).data.toList = a.data.toList ++ b.data.toList := by simp [ByteArray.data_append]
theorem tx_size (a : ByteArray) : a.size = a.data.toList.length := by rw [Array.length_toList]; rfl
theorem tx_of (a : ByteArray) {l : List UInt8} (h : a.data.toList = l) : a = ⟨l.toArray⟩ := by subst h; rfl

theorem putOf_1 {n : Nat} (h : n < 128) : putOf (n : Int) = [UInt8.ofNat n] := by
  unfold putOf enc encN
  rw [if_pos (by omega), Int.toNat_natCast, if_pos h]; rfl
theorem putOf_2 {n : Nat} (h : 128 ≤ n) (h2 : n < 2048) : putOf (n : Int) = [UInt8.ofNat (192 + n / 64), UInt8.ofNat (128 + n % 64)] := by
  unfold putOf enc encN
  rw [if_pos (by omega), Int.toNat_natCast, if_neg (by omega), if_pos h2]; rfl
theorem putOf_3 {n : Nat} (h : 2048 ≤ n) (h2 : n < 65536) (h3 : n < 55296 ∨ 57343 < n) : putOf (n : Int) = [UInt8.ofNat (224 + n / 4096), UInt8.ofNat (128 + n / 64 % 64), UInt8.ofNat (128 + n % 64)] := by
  unfold putOf enc encN
  rw [if_pos (by omega), Int.toNat_natCast, if_neg (by omega), if_neg (by omega), if_pos h2]; rfl
theorem putOf_4 {n : Nat} (h : 65536 ≤ n) (h2 : n ≤ 1114111) : putOf (n : Int) = [UInt8.ofNat (240 + n / 262144), UInt8.ofNat (128 + n / 4096 % 64), UInt8.ofNat (128 + n / 64 % 64), UInt8.ofNat (128 + n % 64)] := by
  unfold putOf enc encN
  rw [if_pos (by omega), Int.toNat_natCast, if_neg (by omega), if_neg (by omega), if_neg (by omega)]; rfl
end Go.Tru
namespace Go.Proofs.Ytmhkgfddlkdmgaa
open Go.RowKit Go.Tru

theorem lit_bytes (xs : List Int) (W : World) : (convert 93 9 (.slice (some ⟨W.heap.size, 0, none⟩) xs.length xs.length)).run Try.prog (W.alloc (.cells (xs.map (Value.int .u8)).toArray 5)) = .ok (.string (strOfNums xs)) (W.alloc (.cells (xs.map (Value.int .u8)).toArray 5)) :=
  run_bytes_lit 93 9 5 Try.underlying93 Try.underlying5 Try.underlying9 xs W _ rfl

set_option maxHeartbeats 1000000 in
set_option maxRecDepth 100000 in
theorem refRune (r : Int) (w : World) :
    Calls Try.prog 26 #[.int .i64 r] w fun e w' => e = .returned (.string ⟨(putOf r).toArray⟩) ∧ Keeps [] w w' := by
  by_cases hno : r < 0 ∨ 1114111 < r ∨ 55296 ≤ r ∧ r ≤ 57343
  · have hp : putOf r = [] := by unfold putOf; rw [if_neg (by omega)]
    rw [hp]
    clear hp
    rcases hno with h1 | h1 | ⟨h1, h2⟩
    all_goals
      go_enter Try.func26, Try.ntmps26
      go_wp2
      go_ret
      exact ⟨rfl, Keeps.refl _ _⟩
  · have hn0 : 0 ≤ r := by omega
    have hn1 : r ≤ 1114111 := by omega
    have hs : r < 55296 ∨ 57343 < r := by omega
    obtain ⟨n, hn⟩ : ∃ n : Nat, r = n := ⟨r.toNat, by omega⟩
    clear hno
    by_cases h1 : r < 128
    · have hc : putOf r = [UInt8.ofNat r.toNat] := by rw [hn, putOf_1 (by omega), Int.toNat_natCast]
      have hl := lit_bytes [r]
      rw [hc]
      simp only [List.length_singleton, List.map_cons, List.map_nil] at hl
      have a2 : r < 55296 := by omega
      clear hs hc hn
      go_enter Try.func26, Try.ntmps26
      go_wp2
      go_ret
      exact ⟨rfl, (Keeps.refl _ _).alloc _⟩
    by_cases h2 : r < 2048
    · have hc : putOf r = [UInt8.ofNat (192 + r / 64).toNat, UInt8.ofNat (128 + r % 64).toNat] := by
        rw [hn, putOf_2 (by omega) (by omega)]
        rw [show (192 + (n : Int) / 64).toNat = 192 + n / 64 by omega, show (128 + (n : Int) % 64).toNat = 128 + n % 64 by omega]
      have hl := lit_bytes [192 + r / 64, 128 + r % 64]
      rw [hc]
      simp only [List.length_cons, List.length_nil, List.map_cons, List.map_nil] at hl
      have h128 : 128 ≤ r := by omega
      have hs1 : r < 55296 := by omega
      clear hs hc h1 hn
      go_enter Try.func26, Try.ntmps26
      go_wp2
      go_ret
      exact ⟨rfl, (Keeps.refl _ _).alloc _⟩
    by_cases h3 : r < 65536
    · have hc : putOf r = [UInt8.ofNat (224 + r / 4096).toNat, UInt8.ofNat (128 + r / 64 % 64).toNat, UInt8.ofNat (128 + r % 64).toNat] := by
        rw [hn, putOf_3 (by omega) (by omega) (by omega)]
        rw [show (224 + (n : Int) / 4096).toNat = 224 + n / 4096 by omega, show (128 + (n : Int) / 64 % 64).toNat = 128 + n / 64 % 64 by omega, show (128 + (n : Int) % 64).toNat = 128 + n % 64 by omega]
      have hl := lit_bytes [224 + r / 4096, 128 + r / 64 % 64, 128 + r % 64]
      rw [hc]
      simp only [List.length_cons, List.length_nil, List.map_cons, List.map_nil] at hl
      have h2048 : 2048 ≤ r := by omega
      clear hc h1 h2 hn
      rcases hs with hs | hs
      all_goals
        go_enter Try.func26, Try.ntmps26
        go_wp2
        go_ret
        exact ⟨rfl, (Keeps.refl _ _).alloc _⟩
    · have hc : putOf r = [UInt8.ofNat (240 + r / 262144).toNat, UInt8.ofNat (128 + r / 4096 % 64).toNat, UInt8.ofNat (128 + r / 64 % 64).toNat, UInt8.ofNat (128 + r % 64).toNat] := by
        rw [hn, putOf_4 (by omega) (by omega)]
        rw [show (240 + (n : Int) / 262144).toNat = 240 + n / 262144 by omega, show (128 + (n : Int) / 4096 % 64).toNat = 128 + n / 4096 % 64 by omega, show (128 + (n : Int) / 64 % 64).toNat = 128 + n / 64 % 64 by omega, show (128 + (n : Int) % 64).toNat = 128 + n % 64 by omega]
      have hl := lit_bytes [240 + r / 262144, 128 + r / 4096 % 64, 128 + r / 64 % 64, 128 + r % 64]
      rw [hc]
      simp only [List.length_cons, List.length_nil, List.map_cons, List.map_nil] at hl
      have h65536 : 65536 ≤ r := by omega
      clear hc h1 h2 hn hs h3
      go_enter Try.func26, Try.ntmps26
      go_wp2
      go_ret
      exact ⟨rfl, (Keeps.refl _ _).alloc _⟩

/-! ### Write -/
end Go.Proofs.Ytmhkgfddlkdmgaa
