/-
  truchmanref1.Rune and Write: their contracts.
-/
import Derived.Test.YtenkbjpjpblccaaRows
import Derived.Test.YtenkbjpjpblccaaEscModel
import Derived.Lib.Builder
import Derived.Lib.Strings
import Derived.Deep.QuietTactic
import Derived.Deep.RegionWith
namespace Go.Tru
theorem tx_app (a b : ByteArray) : (a ++ b).data.toList = a.data.toList ++ b.data.toList := by simp [ByteArray.data_append]
theorem tx_size (a : ByteArray) : a.size = a.data.toList.length := by rw [Array.length_toList]; rfl
theorem tx_of (a : ByteArray) {l : List UInt8} (h : a.data.toList = l) : a = ⟨l.toArray⟩ := by subst h; rfl

theorem putOf_1 {n : Nat} (h : n < 128) : putOf (n : Int) = [UInt8.ofNat n] := by
  unfold putOf enc encN
  rw [if_pos (by omega), Int.toNat_natCast, if_pos h]; rfl
theorem putOf_2 {n : Nat} (h : 128 ≤ n) (h2 : n < 2048) : putOf (n : Int) = [UInt8.ofNat (192 + n / 64), UInt8.ofNat (128 + n % 64)] := by
  unfold putOf enc encN
  rw [if_pos (by omega), Int.toNat_natCast, if_neg (by omega), if_pos h2]; rfl
theorem putOf_3 {n : Nat} (h : 2048 ≤ n) (h2 : n < 65536) (h3 : n < 55296 ∨ 57343 < n) : putOf (n : Int) = [UInt8.ofNat (224 + n / 4096), UInt8.ofNat (128 + n / 64 % 64), UInt8.ofNat (128 + n % 64)] := by
  unfold putOf enc encN
  rw [if_pos (by omega), Int.toNat_natCast, if_neg (by omega), if_neg (by omega), if_pos h2]; rfl
theorem putOf_4 {n : Nat} (h : 65536 ≤ n) (h2 : n ≤ 1114111) : putOf (n : Int) = [UInt8.ofNat (240 + n / 262144), UInt8.ofNat (128 + n / 4096 % 64), UInt8.ofNat (128 + n / 64 % 64), UInt8.ofNat (128 + n % 64)] := by
  unfold putOf enc encN
  rw [if_pos (by omega), Int.toNat_natCast, if_neg (by omega), if_neg (by omega), if_neg (by omega)]; rfl
end Go.Tru
namespace Go.Proofs.Ytenkbjpjpblccaa
open Go.RowKit Go.Tru

theorem lit_bytes (xs : List Int) (W : World) : (convert 32 9 (.slice (some ⟨W.heap.size, 0, none⟩) xs.length xs.length)).run Try.prog (W.alloc (.cells (xs.map (Value.int .u8)).toArray 5)) = .ok (.string (strOfNums xs)) (W.alloc (.cells (xs.map (Value.int .u8)).toArray 5)) :=
  run_bytes_lit 32 9 5 Try.underlying32 Try.underlying5 Try.underlying9 xs W _ rfl

set_option maxHeartbeats 1000000 in
set_option maxRecDepth 100000 in
theorem refRune (r : Int) (w : World) :
    Calls Try.prog 10 #[.int .i64 r] w fun e w' => e = .returned (.string ⟨(putOf r).toArray⟩) ∧ Keeps [] w w' := by
  by_cases hno : r < 0 ∨ 1114111 < r ∨ 55296 ≤ r ∧ r ≤ 57343
  · have hp : putOf r = [] := by unfold putOf; rw [if_neg (by omega)]
    rw [hp]
    clear hp
    rcases hno with h1 | h1 | ⟨h1, h2⟩
    all_goals
      go_enter Try.func10, Try.ntmps10
      go_wp2
      go_ret
      exact ⟨rfl, Keeps.refl _ _⟩
  · have hn0 : 0 ≤ r := by omega
    have hn1 : r ≤ 1114111 := by omega
    have hs : r < 55296 ∨ 57343 < r := by omega
    obtain ⟨n, hn⟩ : ∃ n : Nat, r = n := ⟨r.toNat, by omega⟩
    clear hno
    by_cases h1 : r < 128
    · have hc : putOf r = [UInt8.ofNat r.toNat] := by rw [hn, putOf_1 (by omega), Int.toNat_natCast]
      have hl := lit_bytes [r]
      rw [hc]
      simp only [List.length_singleton, List.map_cons, List.map_nil] at hl
      have a2 : r < 55296 := by omega
      clear hs hc hn
      go_enter Try.func10, Try.ntmps10
      go_wp2
      go_ret
      exact ⟨rfl, (Keeps.refl _ _).alloc _⟩
    by_cases h2 : r < 2048
    · have hc : putOf r = [UInt8.ofNat (192 + r / 64).toNat, UInt8.ofNat (128 + r % 64).toNat] := by
        rw [hn, putOf_2 (by omega) (by omega)]
        rw [show (192 + (n : Int) / 64).toNat = 192 + n / 64 by omega, show (128 + (n : Int) % 64).toNat = 128 + n % 64 by omega]
      have hl := lit_bytes [192 + r / 64, 128 + r % 64]
      rw [hc]
      simp only [List.length_cons, List.length_nil, List.map_cons, List.map_nil] at hl
      have h128 : 128 ≤ r := by omega
      have hs1 : r < 55296 := by omega
      clear hs hc h1 hn
      go_enter Try.func10, Try.ntmps10
      go_wp2
      go_ret
      exact ⟨rfl, (Keeps.refl _ _).alloc _⟩
    by_cases h3 : r < 65536
    · have hc : putOf r = [UInt8.ofNat (224 + r / 4096).toNat, UInt8.ofNat (128 + r / 64 % 64).toNat, UInt8.ofNat (128 + r % 64).toNat] := by
        rw [hn, putOf_3 (by omega) (by omega) (by omega)]
        rw [show (224 + (n : Int) / 4096).toNat = 224 + n / 4096 by omega, show (128 + (n : Int) / 64 % 64).toNat = 128 + n / 64 % 64 by omega, show (128 + (n : Int) % 64).toNat = 128 + n % 64 by omega]
      have hl := lit_bytes [224 + r / 4096, 128 + r / 64 % 64, 128 + r % 64]
      rw [hc]
      simp only [List.length_cons, List.length_nil, List.map_cons, List.map_nil] at hl
      have h2048 : 2048 ≤ r := by omega
      clear hc h1 h2 hn
      rcases hs with hs | hs
      all_goals
        go_enter Try.func10, Try.ntmps10
        go_wp2
        go_ret
        exact ⟨rfl, (Keeps.refl _ _).alloc _⟩
    · have hc : putOf r = [UInt8.ofNat (240 + r / 262144).toNat, UInt8.ofNat (128 + r / 4096 % 64).toNat, UInt8.ofNat (128 + r / 64 % 64).toNat, UInt8.ofNat (128 + r % 64).toNat] := by
        rw [hn, putOf_4 (by omega) (by omega)]
        rw [show (240 + (n : Int) / 262144).toNat = 240 + n / 262144 by omega, show (128 + (n : Int) / 4096 % 64).toNat = 128 + n / 4096 % 64 by omega, show (128 + (n : Int) / 64 % 64).toNat = 128 + n / 64 % 64 by omega, show (128 + (n : Int) % 64).toNat = 128 + n % 64 by omega]
      have hl := lit_bytes [240 + r / 262144, 128 + r / 4096 % 64, 128 + r / 64 % 64, 128 + r % 64]
      rw [hc]
      simp only [List.length_cons, List.length_nil, List.map_cons, List.map_nil] at hl
      have h65536 : 65536 ≤ r := by omega
      clear hc h1 h2 hn hs h3
      go_enter Try.func10, Try.ntmps10
      go_wp2
      go_ret
      exact ⟨rfl, (Keeps.refl _ _).alloc _⟩

/-! ### Write -/

theorem escB_len (b : UInt8) : (escB b).length ≤ 6 := by unfold escB; repeat' split
                                                         all_goals simp
theorem writeOf_len (l : List UInt8) : (writeOf l).length ≤ l.length * 6 := by
  induction l with
  | nil => simp [writeOf]
  | cons b l ih =>
    have e : writeOf (b :: l) = escB b ++ writeOf l := rfl
    have := escB_len b
    rw [e, List.length_append, List.length_cons]
    omega

theorem writeOf_take {l : List UInt8} {k : Nat} {x : UInt8} (h : l[k]? = some x) : writeOf (l.take (k + 1)) = writeOf (l.take k) ++ escB x := by
  obtain ⟨hk, rfl⟩ := List.getElem?_eq_some_iff.1 h
  have e : l.take (k + 1) = l.take k ++ [l[k]] := List.take_succ_eq_append_getElem hk
  rw [e]
  unfold writeOf
  rw [List.flatMap_append]
  simp

def hexStr : ByteArray := ⟨#[48, 49, 50, 51, 52, 53, 54, 55, 56, 57, 97, 98, 99, 100, 101, 102]⟩
theorem hexStr_at (i : Nat) (h : i < hexStr.size) : hexStr[i]'h = hexDig i := by
  have hall : ∀ j : Fin 16, hexStr[j.1]'(show j.1 < 16 from j.2) = hexDig j.1 := by decide +kernel
  exact hall ⟨i, h⟩

def twoB (a c : UInt8) : ByteArray := strOfNums [(a.toNat : Int), (c.toNat : Int)]
theorem twoB_data (a c : UInt8) : (twoB a c).data.toList = [a, c] := by unfold twoB; rw [str_data]; simp
theorem two_at (i : Nat) (h : i < 16) : (⟨#[48, 49, 50, 51, 52, 53, 54, 55, 56, 57, 97, 98, 99, 100, 101, 102]⟩ : ByteArray)[i]'(show i < 16 from h) = hexDig i := hexStr_at i h

theorem cut_one (s : ByteArray) (k : Nat) (h : k < s.size) : s.extract k (k + 1) = ⟨#[s[k]'h]⟩ := by
  apply ByteArray.ext
  rw [ByteArray.data_extract]
  apply Array.ext
  · have h1 : s.data.size = s.size := rfl
    simp only [Array.size_extract, h1]
    show min (k + 1) s.size - k = 1
    omega
  · intro i h1 h2
    have : i = 0 := by simp at h2; omega
    subst this
    simp
    rfl

def WriteRel (s : ByteArray) (w : World) (out i : Value) (wr : World) : Prop :=
  ∃ (k : Nat) (O : ByteArray), k ≤ s.size ∧ i = .int .i64 k ∧ out = .string O ∧ O.data.toList = writeOf (s.data.toList.take k) ∧ Keeps [] w wr

/-- a byte by its kind -/
theorem escB_kind (x : UInt8) : (x = 34 ∨ x = 92) ∧ escB x = [92, x] ∨ x = 8 ∧ escB x = [92, 98] ∨ x = 12 ∧ escB x = [92, 102] ∨ x = 10 ∧ escB x = [92, 110] ∨ x = 13 ∧ escB x = [92, 114] ∨ x = 9 ∧ escB x = [92, 116] ∨
    (x.toNat < 32 ∧ x.toNat ≠ 8 ∧ x.toNat ≠ 12 ∧ x.toNat ≠ 10 ∧ x.toNat ≠ 13 ∧ x.toNat ≠ 9) ∧ escB x = [92, 117, 48, 48, hexDig (x.toNat / 16), hexDig (x.toNat % 16)] ∨ (32 ≤ x.toNat ∧ x.toNat ≠ 34 ∧ x.toNat ≠ 92) ∧ escB x = [x] := by
  have hall : ∀ y : Fin 256, ((UInt8.ofNat y.1 = 34 ∨ UInt8.ofNat y.1 = 92) ∧ escB (UInt8.ofNat y.1) = [92, UInt8.ofNat y.1]) ∨ UInt8.ofNat y.1 = 8 ∧ escB (UInt8.ofNat y.1) = [92, 98] ∨ UInt8.ofNat y.1 = 12 ∧ escB (UInt8.ofNat y.1) = [92, 102] ∨ UInt8.ofNat y.1 = 10 ∧ escB (UInt8.ofNat y.1) = [92, 110] ∨ UInt8.ofNat y.1 = 13 ∧ escB (UInt8.ofNat y.1) = [92, 114] ∨ UInt8.ofNat y.1 = 9 ∧ escB (UInt8.ofNat y.1) = [92, 116] ∨
    ((UInt8.ofNat y.1).toNat < 32 ∧ (UInt8.ofNat y.1).toNat ≠ 8 ∧ (UInt8.ofNat y.1).toNat ≠ 12 ∧ (UInt8.ofNat y.1).toNat ≠ 10 ∧ (UInt8.ofNat y.1).toNat ≠ 13 ∧ (UInt8.ofNat y.1).toNat ≠ 9) ∧ escB (UInt8.ofNat y.1) = [92, 117, 48, 48, hexDig ((UInt8.ofNat y.1).toNat / 16), hexDig ((UInt8.ofNat y.1).toNat % 16)] ∨ (32 ≤ (UInt8.ofNat y.1).toNat ∧ (UInt8.ofNat y.1).toNat ≠ 34 ∧ (UInt8.ofNat y.1).toNat ≠ 92) ∧ escB (UInt8.ofNat y.1) = [UInt8.ofNat y.1] := by decide +kernel
  have h := hall ⟨x.toNat, x.toNat_lt⟩
  rw [show UInt8.ofNat (⟨x.toNat, x.toNat_lt⟩ : Fin 256).1 = x by simp] at h
  exact h

set_option maxHeartbeats 4000000 in
set_option maxRecDepth 100000 in
theorem refWrite (s : ByteArray) (hs : s.size ≤ 1000000) (w : World) :
    Calls Try.prog 11 #[.string s] w fun e w' => e = .returned (.string ⟨(writeOf s.data.toList).toArray⟩) ∧ Keeps [] w w' := by
  go_enter Try.func11, Try.ntmps11
  go_wp2_with fail
  go_loopw [3, 4] (fun out i wr => WriteRel s w out i wr) (fun _ i _ => s.size - (intOf i).toNat)
  case atStart => exact ⟨0, ⟨#[]⟩, Nat.zero_le _, rfl, rfl, rfl, Keeps.refl _ _⟩
  case round =>
    obtain ⟨k, O, hk, rfl, rfl, hO, hK⟩ := hrel
    by_cases hlt : k < s.size
    · obtain ⟨x, hx⟩ : ∃ x : UInt8, s[k]'hlt = x := ⟨_, rfl⟩
      have hl : s.data.toList[k]? = some x := by
        rw [List.getElem?_eq_getElem (by rw [Array.length_toList]; exact hlt), ← hx]; rfl
      have hx8 : x.toNat < 256 := x.toNat_lt
      have hcut : s.extract k (k + 1) = ⟨#[x]⟩ := by rw [← hx]; exact cut_one s k hlt
      have hnext := writeOf_take hl
      have hOs : O.size ≤ 6000000 := by
        rw [tx_size, hO]
        have := writeOf_len (s.data.toList.take k)
        simp only [List.length_take] at this
        omega
      have hki : (k : Int) < (s.size : Int) := by omega
      have HNEXT := Lib.hid hnext
      have HO := Lib.hid hO
      have HK := Lib.hid hK
      clear hl hnext hO hK
      have hone : ∀ a : UInt8, (⟨#[a]⟩ : ByteArray).size = 1 := fun _ => rfl
      rcases escB_kind x with ⟨hk1, he⟩ | ⟨hk1, he⟩ | ⟨hk1, he⟩ | ⟨hk1, he⟩ | ⟨hk1, he⟩ | ⟨hk1, he⟩ | ⟨hk1, he⟩ | ⟨hk1, he⟩
      · have HE := Lib.hid he
        have z1 : ¬ 281474976710656 < O.size + (⟨#[92]⟩ : ByteArray).size := by show ¬ _ < O.size + 1; omega
        have z2 : ¬ 281474976710656 < (O ++ (⟨#[92]⟩ : ByteArray)).size + (⟨#[x]⟩ : ByteArray).size := by
          rw [tx_size, tx_app, List.length_append, ← tx_size, ← tx_size]
          show ¬ _ < O.size + 1 + 1
          omega
        have hkx : (x.toNat : Int) = 34 ∨ (x.toNat : Int) = 92 := by rcases hk1 with rfl | rfl <;> simp
        obtain ⟨X, hX⟩ : ∃ X : ByteArray, ⟨#[x]⟩ = X := ⟨_, rfl⟩
        rw [hX] at hcut z2
        have hXd : X.data.toList = [x] := by rw [← hX]
        have HX := Lib.hid hXd
        clear he hk1 hX hXd
        rcases hkx with hkx | hkx
        all_goals
          go_wp2_with fail
          go_roundw
          case rel => exact ⟨k + 1, _, by omega, by go_num, rfl, by rw [HNEXT.out, tx_app, tx_app, HO.out, HX.out, HE.out]; simp, HK.out⟩
          case measure => simp [intOf]; omega
      · have HE := Lib.hid he
        have hz : ¬ 281474976710656 < O.size + (⟨#[92, 98]⟩ : ByteArray).size := by show ¬ _ < O.size + 2; omega
        rw [hk1] at hx
        clear he hcut
        subst hk1
        go_wp2_with fail
        go_roundw
        case rel => exact ⟨k + 1, _, by omega, by go_num, rfl, by rw [HNEXT.out, tx_app, HO.out, HE.out], HK.out⟩
        case measure => simp [intOf]; omega
      · have HE := Lib.hid he
        have hz : ¬ 281474976710656 < O.size + (⟨#[92, 102]⟩ : ByteArray).size := by show ¬ _ < O.size + 2; omega
        rw [hk1] at hx
        clear he hcut
        subst hk1
        go_wp2_with fail
        go_roundw
        case rel => exact ⟨k + 1, _, by omega, by go_num, rfl, by rw [HNEXT.out, tx_app, HO.out, HE.out], HK.out⟩
        case measure => simp [intOf]; omega
      · have HE := Lib.hid he
        have hz : ¬ 281474976710656 < O.size + (⟨#[92, 110]⟩ : ByteArray).size := by show ¬ _ < O.size + 2; omega
        rw [hk1] at hx
        clear he hcut
        subst hk1
        go_wp2_with fail
        go_roundw
        case rel => exact ⟨k + 1, _, by omega, by go_num, rfl, by rw [HNEXT.out, tx_app, HO.out, HE.out], HK.out⟩
        case measure => simp [intOf]; omega
      · have HE := Lib.hid he
        have hz : ¬ 281474976710656 < O.size + (⟨#[92, 114]⟩ : ByteArray).size := by show ¬ _ < O.size + 2; omega
        rw [hk1] at hx
        clear he hcut
        subst hk1
        go_wp2_with fail
        go_roundw
        case rel => exact ⟨k + 1, _, by omega, by go_num, rfl, by rw [HNEXT.out, tx_app, HO.out, HE.out], HK.out⟩
        case measure => simp [intOf]; omega
      · have HE := Lib.hid he
        have hz : ¬ 281474976710656 < O.size + (⟨#[92, 116]⟩ : ByteArray).size := by show ¬ _ < O.size + 2; omega
        rw [hk1] at hx
        clear he hcut
        subst hk1
        go_wp2_with fail
        go_roundw
        case rel => exact ⟨k + 1, _, by omega, by go_num, rfl, by rw [HNEXT.out, tx_app, HO.out, HE.out], HK.out⟩
        case measure => simp [intOf]; omega
      · have HE := Lib.hid he
        obtain ⟨q0, q1, q2, q3, q4, q5⟩ := hk1
        have z1 : ¬ 281474976710656 < O.size + (⟨#[92, 117, 48, 48]⟩ : ByteArray).size := by show ¬ _ < O.size + 4; omega
        obtain ⟨n, hn⟩ : ∃ n : Nat, x.toNat = n := ⟨_, rfl⟩
        rw [hn] at q0 q1 q2 q3 q4 q5
        have e1 : ((n : Int) == 8) = false := by rw [beq_eq_false_iff_ne]; omega
        have e2 : ((n : Int) == 12) = false := by rw [beq_eq_false_iff_ne]; omega
        have e3 : ((n : Int) == 10) = false := by rw [beq_eq_false_iff_ne]; omega
        have e4 : ((n : Int) == 13) = false := by rw [beq_eq_false_iff_ne]; omega
        have e5 : ((n : Int) == 9) = false := by rw [beq_eq_false_iff_ne]; omega
        have e6 : ((n : Int) == 34) = false := by rw [beq_eq_false_iff_ne]; omega
        have e7 : ((n : Int) == 92) = false := by rw [beq_eq_false_iff_ne]; omega
        have e8 : (n : Int) < 32 := by omega
        have b1 : 0 ≤ (n : Int) % 16 := by omega
        have b2 : (n : Int) % 16 < 16 := by omega
        have b3 : 0 ≤ (n : Int) / 16 := by omega
        have b4 : (n : Int) / 16 < 16 := by omega
        have hcv : ∀ a c : UInt8, (convert 32 9 (.slice (some ⟨wr.heap.size, 0, none⟩) 2 2)).run Try.prog (wr.alloc (.cells #[.int .u8 a.toNat, .int .u8 c.toNat] 5)).drew = .ok (.string (twoB a c)) (wr.alloc (.cells #[.int .u8 a.toNat, .int .u8 c.toNat] 5)).drew := fun a c => lit_bytes [(a.toNat : Int), (c.toNat : Int)] wr.drew
        obtain ⟨A, hA⟩ : ∃ A, O ++ (⟨#[92, 117, 48, 48]⟩ : ByteArray) = A := ⟨_, rfl⟩
        have hAs : A.size = O.size + 4 := by rw [← hA, tx_size, tx_app, List.length_append, ← tx_size]; rfl
        have z2 : ∀ a c : UInt8, ¬ 281474976710656 < A.size + (twoB a c).size := fun a c => by
          show ¬ _ < A.size + 2
          omega
        have z3 : ¬ 281474976710656 < A.size + 2 := by omega
        have z4 : ∀ a c : UInt8, (twoB a c).size = 2 := fun _ _ => rfl
        have HAS := Lib.hid hAs
        clear hAs z2
        have HN := Lib.hid hn
        clear he hcut
        go_wp2_with fail
        go_region
        all_goals
          go_wp2_with fail
          go_roundw
          case rel => exact ⟨k + 1, _, by omega, by go_num, rfl, by rw [HNEXT.out, tx_app, ← hA, tx_app, HO.out, HE.out, HN.out, twoB_data, two_at _ (by omega), two_at _ (by omega)]; simp, (HK.out.alloc _).drew⟩
          case measure => simp [intOf]; omega
      · have HE := Lib.hid he
        obtain ⟨q0, q1, q2⟩ := hk1
        have z1 : ¬ 281474976710656 < O.size + (⟨#[x]⟩ : ByteArray).size := by show ¬ _ < O.size + 1; omega
        have e1 : ((x.toNat : Int) == 8) = false := by rw [beq_eq_false_iff_ne]; omega
        have e2 : ((x.toNat : Int) == 12) = false := by rw [beq_eq_false_iff_ne]; omega
        have e3 : ((x.toNat : Int) == 10) = false := by rw [beq_eq_false_iff_ne]; omega
        have e4 : ((x.toNat : Int) == 13) = false := by rw [beq_eq_false_iff_ne]; omega
        have e5 : ((x.toNat : Int) == 9) = false := by rw [beq_eq_false_iff_ne]; omega
        have e6 : ((x.toNat : Int) == 34) = false := by rw [beq_eq_false_iff_ne]; omega
        have e7 : ((x.toNat : Int) == 92) = false := by rw [beq_eq_false_iff_ne]; omega
        have e8 : ¬ (x.toNat : Int) < 32 := by omega
        obtain ⟨X, hX⟩ : ∃ X : ByteArray, ⟨#[x]⟩ = X := ⟨_, rfl⟩
        rw [hX] at hcut z1
        have hXd : X.data.toList = [x] := by rw [← hX]
        have HX := Lib.hid hXd
        clear he hX hXd q0 q1 q2
        go_wp2_with fail
        go_roundw
        case rel => exact ⟨k + 1, _, by omega, by go_num, rfl, by rw [HNEXT.out, tx_app, HO.out, HX.out, HE.out], HK.out⟩
        case measure => simp [intOf]; omega
    · obtain rfl : k = s.size := by omega
      rw [List.take_of_length_le (by rw [Array.length_toList]; exact Nat.le_refl _)] at hO
      have HO := Lib.hid (tx_of O hO)
      have HK := Lib.hid hK
      clear hO hK
      go_wp2_with fail
      go_ret
      exact ⟨by rw [HO.out]; rfl, HK.out⟩

end Go.Proofs.Ytenkbjpjpblccaa
