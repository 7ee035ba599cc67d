/-
  truchmanref1.Big: its contract.
-/
import Derived.Test.YtmcbdkhlbmhfeaaCoreMore
import Derived.Laws.BitsAllLaws
import Derived.Laws.MakeOwn
namespace Go.Tru
/-- a number's lowest bytes, the highest first -/
def bigB (v : Nat) : Nat → List UInt8
  | 0 => []
  | m + 1 => UInt8.ofNat (v / 256 ^ m % 256) :: bigB v m
theorem bigB_len (v : Nat) : ∀ m, (bigB v m).length = m
  | 0 => rfl
  | m + 1 => by rw [bigB, List.length_cons, bigB_len v m]
end Go.Tru
namespace Go.Proofs.Ytmcbdkhlbmhfeaa
open Go.RowKit Go.Tru

def BigRel (v : Nat) (n g : Nat) (w : World) (vv i : Value) (wr : World) : Prop :=
  ∃ k : Nat, k ≤ n ∧ i = .int .i64 ((k : Int) - 1) ∧ vv = .int .u64 ((v / 256 ^ (n - k) : Nat) : Int) ∧ Has wr g (byteVals (List.replicate k 0 ++ bigB v (n - k))) 5 ∧ Keeps [] w wr

theorem row_get (j : Nat) (L : List UInt8) : (byteVals (List.replicate (j + 1) 0 ++ L))[j]? = some (.int .u8 0) := by
  have : (List.replicate (j + 1) (0 : UInt8) ++ L)[j]? = some 0 := by
    rw [List.getElem?_append_left (by simp)]
    simp
  rw [byteVals, List.getElem?_map, this]
  rfl

theorem row_set (j b : Nat) (L : List UInt8) (hb : b < 256) : (byteVals (List.replicate (j + 1) 0 ++ L)).set j (.int .u8 (b : Int)) = byteVals (List.replicate j 0 ++ UInt8.ofNat b :: L) := by
  have h1 : byteVals (List.replicate (j + 1) 0 ++ L) = List.replicate j (.int .u8 0) ++ .int .u8 0 :: byteVals L := by
    rw [List.replicate_succ', List.append_assoc]
    simp [byteVals]
  have h2 : byteVals (List.replicate j 0 ++ UInt8.ofNat b :: L) = List.replicate j (.int .u8 0) ++ .int .u8 (b : Int) :: byteVals L := by
    have h3 : (UInt8.ofNat b).toNat = b := by simp; omega
    simp only [byteVals, List.map_append, List.map_cons, List.map_replicate, h3]
    rfl
  rw [h1, h2, List.set_append_right _ _ (by simp)]
  simp

theorem made_bytes (n : Nat) (hn : n ≤ 8) : (madeCells (Value.int .u8 0).cells (n * 1)).toList = byteVals (List.replicate n 0) := by
  rcases (show n = 0 ∨ n = 1 ∨ n = 2 ∨ n = 3 ∨ n = 4 ∨ n = 5 ∨ n = 6 ∨ n = 7 ∨ n = 8 by omega) with rfl | rfl | rfl | rfl | rfl | rfl | rfl | rfl | rfl <;> kernel_rfl

theorem make_bytes (n : Nat) (hn : n ≤ 8) (W : World) :
    ∃ W', (Instr.makeSlice 40 (.int .i64 n) (.int .i64 n)).run Try.prog W = .ok (.slice (some ⟨W.heap.size, 0, none⟩) n n) W' ∧ Has W' W.heap.size (byteVals (List.replicate n 0)) 5 ∧ Keeps [] W W' := by
  obtain ⟨i0, hi, hz0, hz1, hz2⟩ := info_parts info_byte
  have hr := run_makeSlice (P := Try.prog) W 40 5 i0 (.int .u8 0) Try.underlying40 hi hz0 .i64 .i64 n n (by omega) (by omega) (by rw [hz1]; simp only [Int.toNat_natCast]; omega) (by rw [hz2]; omega) (by omega)
  rw [hz1] at hr
  simp only [Int.toNat_natCast] at hr
  refine ⟨_, hr, ?_, (Keeps.refl _ _).alloc _⟩
  have h := Has.new' W (madeCells (Value.int .u8 0).cells (n * 1)) 5 rfl
  rw [made_bytes n hn] at h
  exact h

set_option maxHeartbeats 1600000 in
set_option maxRecDepth 100000 in
theorem big_any (v n : Nat) (hv : v ≤ 18446744073709551615) (hn : 1 ≤ n ∧ n ≤ 8) (w : World) :
    Calls Try.prog 13 #[.int .u64 v, .int .i64 n] w fun r w' => r = .returned (.string (bytesOf (bigB v n))) ∧ Keeps [] w w' := by
  have h1 : ¬ (n : Int) < 1 := by omega
  have h2 : ¬ 8 < (n : Int) := by omega
  go_enter Try.func13, Try.ntmps13
  go_wp2_with fail
  obtain ⟨w1, hmk, hnew, k1⟩ := make_bytes n hn.2 w
  rw [hmk]
  have HNEW := Lib.hid hnew
  have K1 := Lib.hid k1
  have hz1 := hnew.lt
  clear hmk hnew k1
  go_wp2_with fail
  go_loopw [0, 6] (fun vv i wr => BigRel v n w.heap.size w vv i wr) (fun _ i _ => (intOf i + 1).toNat)
  case atStart => exact ⟨n, Nat.le_refl _, rfl, by simp, by simpa [bigB] using HNEW.out, K1.out⟩
  case round =>
    obtain ⟨k, hk, rfl, rfl, hhas, hK⟩ := hrel
    have hbl := hhas.lt
    have HK := Lib.hid hK
    clear hK
    cases k with
    | zero =>
      have hin : OwnsBytes wr w.heap.size (.slice (some ⟨w.heap.size, 0, none⟩) n n) (bigB v n) := by
        unfold OwnsBytes
        rw [bigB_len]
        exact ownsRow_lit (by simpa using hhas) (Nat.le_refl _) (by simp [byteVals, bigB_len]) (by unfold maxLen; omega)
      have hconv := bytes_string hin Try.underlying40 Try.underlying9
      have hge : ¬ (0 : Int) ≤ ((0 : Nat) : Int) - 1 := by omega
      clear hhas hin
      go_wp2_with fail
      go_ret
      exact ⟨rfl, HK.out⟩
    | succ j =>
      have hi : (((j + 1 : Nat) : Int) - 1) = (j : Int) := by omega
      rw [hi]
      obtain ⟨q, hq⟩ : ∃ q, v / 256 ^ (n - (j + 1)) = q := ⟨_, rfl⟩
      have hqv : q ≤ v := by rw [← hq]; exact Nat.div_le_self _ _
      have hnj : n - j = n - (j + 1) + 1 := by omega
      have hq2 : v / 256 ^ (n - j) = q / 256 := by rw [hnj, Nat.pow_succ, ← Nat.div_div_eq_div_mul, hq]
      have hbig : bigB v (n - j) = UInt8.ofNat (q % 256) :: bigB v (n - (j + 1)) := by rw [hnj, bigB, hq]
      rw [hq]
      have hand : bits .and .u64 (q : Int) 255 = ((q % 256 : Nat) : Int) := by
        rw [u64_and _ _ (by omega) (by omega) (by omega) (by omega), show (255 : Int).toNat = 2 ^ 8 - 1 from rfl, Int.toNat_natCast, Nat.and_two_pow_sub_one_eq_mod]
      obtain ⟨y, hy⟩ : ∃ y, q % 256 = y := ⟨_, rfl⟩
      have hy1 : y < 256 := by omega
      rw [hy] at hand hbig
      have hcell : wr.cell? ⟨w.heap.size, j, none⟩ = some (.int .u8 0) := by rw [hhas.cell, row_get]
      have hfree := hhas.free j
      have hset := hhas.set j (.int .u8 (y : Int))
      rw [row_set j y _ hy1, ← hbig] at hset
      have HSET := Lib.hid hset
      have HQ2 := Lib.hid hq2
      have hjn : (j : Int) < (n : Int) := by omega
      have hge : (0 : Int) ≤ (j : Int) := by omega
      clear hhas hset hq2 hbig hq hy hnj hi
      go_wp2_with fail
      go_roundw
      case rel => exact ⟨j, by omega, rfl, by rw [HQ2.out]; rfl, HSET.out, HK.out.setCell (Or.inr (Nat.le_refl _)) _⟩
      case measure => simp [intOf]
end Go.Proofs.Ytmcbdkhlbmhfeaa
