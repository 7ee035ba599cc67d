/-
  DecimalRange's walk.
-/
import Derived.Test.YtfgnjaelfjabmaaDoorDecAlive
namespace Go.Proofs.YtfgnjaelfjabmaaDoor
open Go.RowKit Go.Tru

theorem str_d (W : World) (b : Int) (n : Nat) (hn : n = W.heap.size) :
    (convert 39 9 (.slice (some ⟨n, 0, none⟩) 1 1)).run Tryd.prog (W.alloc (.cells #[.int .u8 b] 5)) = .ok (.string (strOfNums [b])) (W.alloc (.cells #[.int .u8 b] 5)) :=
  run_bytes_lit 39 9 5 Tryd.underlying39 Tryd.underlying5 Tryd.underlying9 [b] W n hn

def topStr : ByteArray := ⟨#[49, 56, 52, 52, 54, 55, 52, 52, 48, 55, 51, 55, 48, 57, 53, 53, 49, 54, 49]⟩
def sgnStr (g : Bool) : ByteArray := if g = true then ⟨#[45]⟩ else ⟨#[]⟩

theorem cat_lists (a b : List UInt8) : (⟨a.toArray⟩ : ByteArray) ++ ⟨b.toArray⟩ = ⟨(a ++ b).toArray⟩ := by
  apply ByteArray.ext
  simp [ByteArray.data_append]

theorem sgn_cat (g : Bool) (l : List UInt8) : sgnStr g ++ ⟨l.toArray⟩ = ⟨(signed g l).toArray⟩ := by
  cases g
  · exact cat_lists [] l
  · exact cat_lists [45] l

theorem signed_app (g : Bool) (a b : List UInt8) : signed g a ++ b = signed g (a ++ b) := by cases g <;> rfl

theorem dig_str (d : Nat) : strOfNums [48 + (d : Int)] = ⟨[UInt8.ofNat (48 + d)].toArray⟩ := by
  rw [show 48 + (d : Int) = ((48 + d : Nat) : Int) by simp]
  rfl

theorem res_last (g : Bool) (d : Nat) (hd : d ≤ 9) : ∃ r1 r2 r3, resOf g (18446744073709551610 + d) = (r1, r2, r3) ∧ ((r3 == 0) = decide (d ≤ if g = true then 6 else 5)) ∧ ((r3 == 0) = true ∨ (r3 == 7) = true) := by
  unfold resOf
  cases g
  · simp only [Bool.false_eq_true, if_false]
    by_cases h : d ≤ 5
    · rw [if_pos (by omega)]; exact ⟨_, _, _, rfl, by simp [h], Or.inl rfl⟩
    · rw [if_neg (by omega)]; exact ⟨_, _, _, rfl, by simp [h], Or.inr rfl⟩
  · simp only [if_true]
    rw [if_neg (by omega)]
    by_cases h : d ≤ 6
    · rw [if_pos (by omega)]; exact ⟨_, _, _, rfl, by simp [h], Or.inl rfl⟩
    · rw [if_neg (by omega)]; exact ⟨_, _, _, rfl, by simp [h], Or.inr rfl⟩

set_option maxHeartbeats 2000000 in
set_option maxRecDepth 100000 in
theorem range_few (d : Nat) (g : Bool) (w : World) (hd : d ≤ 9) (htab : PowTab w) :
    Calls Tryd.prog 7 #[.int .u8 (d : Int), .bool g] w fun e w' => e = .returned (.bool true) ∧ Below w.heap.size w w' := by
  have hp1 := fun W => parse_any ⟨(signed g (topDigits ++ [UInt8.ofNat (48 + d)])).toArray⟩ W
  have hp2 := fun W => parse_any ⟨(signed g (topDigits ++ [48, 48])).toArray⟩ W
  have hp3 := fun W => parse_any ⟨(signed g [48, UInt8.ofNat (48 + d)]).toArray⟩ W
  obtain ⟨r1, r2, r3, hr, hr0, hr7⟩ := res_last g d hd
  rw [show parseFrom Num.new (⟨(signed g (topDigits ++ [UInt8.ofNat (48 + d)])).toArray⟩ : ByteArray).data.toList = (r1, r2, r3) from (range_last g d hd).trans hr] at hp1
  rw [show parseFrom Num.new (⟨(signed g (topDigits ++ [48, 48])).toArray⟩ : ByteArray).data.toList = (false, 0, 7) from range_more g] at hp2
  rw [show parseFrom Num.new (⟨(signed g [48, UInt8.ofNat (48 + d)]).toArray⟩ : ByteArray).data.toList = (false, 0, 2) from range_zero g d hd] at hp3
  obtain ⟨x, hx⟩ : ∃ x : Int, 48 + (d : Int) = x := ⟨_, rfl⟩
  have hwx : IntKind.u8.wrap x = x := by rw [IntKind.wrap_u8]; omega
  have hconv := fun W n hn => str_d W x n hn
  have hdd := dig_str d
  rw [hx] at hdd
  obtain ⟨D, hD⟩ : ∃ D : ByteArray, (⟨[UInt8.ofNat (48 + d)].toArray⟩ : ByteArray) = D := ⟨_, rfl⟩
  have hDs : D.size = 1 := by rw [← hD]; rfl
  rw [hdd, hD] at hconv
  obtain ⟨q, hq⟩ : ∃ q, sgnStr g = q := ⟨_, rfl⟩
  have hqs : q.size ≤ 1 := by rw [← hq]; cases g <;> decide
  obtain ⟨A, hA⟩ : ∃ A, q ++ (⟨#[49, 56, 52, 52, 54, 55, 52, 52, 48, 55, 51, 55, 48, 57, 53, 53, 49, 54, 49]⟩ : ByteArray) = A := ⟨_, rfl⟩
  have hAs : A.size ≤ 20 := by rw [← hA, ByteArray.size_append]; show q.size + 19 ≤ 20; omega
  obtain ⟨B, hB⟩ : ∃ B, q ++ (⟨#[48]⟩ : ByteArray) = B := ⟨_, rfl⟩
  have hBs : B.size ≤ 2 := by rw [← hB, ByteArray.size_append]; show q.size + 1 ≤ 2; omega
  obtain ⟨S1, h1⟩ : ∃ S1, A ++ D = S1 := ⟨_, rfl⟩
  obtain ⟨S2, h2⟩ : ∃ S2, A ++ (⟨#[48, 48]⟩ : ByteArray) = S2 := ⟨_, rfl⟩
  obtain ⟨S3, h3⟩ : ∃ S3, B ++ D = S3 := ⟨_, rfl⟩
  have e1 : (⟨(signed g (topDigits ++ [UInt8.ofNat (48 + d)])).toArray⟩ : ByteArray) = S1 := by
    rw [← h1, ← hA, ← hq, ← hD, show (⟨#[49, 56, 52, 52, 54, 55, 52, 52, 48, 55, 51, 55, 48, 57, 53, 53, 49, 54, 49]⟩ : ByteArray) = ⟨topDigits.toArray⟩ from rfl, sgn_cat g topDigits, cat_lists, signed_app]
  have e2 : (⟨(signed g (topDigits ++ [48, 48])).toArray⟩ : ByteArray) = S2 := by
    rw [← h2, ← hA, ← hq, show (⟨#[49, 56, 52, 52, 54, 55, 52, 52, 48, 55, 51, 55, 48, 57, 53, 53, 49, 54, 49]⟩ : ByteArray) = ⟨topDigits.toArray⟩ from rfl, sgn_cat g topDigits, show (⟨#[48, 48]⟩ : ByteArray) = ⟨[48, 48].toArray⟩ from rfl, cat_lists, signed_app]
  have e3 : (⟨(signed g [48, UInt8.ofNat (48 + d)]).toArray⟩ : ByteArray) = S3 := by
    rw [← h3, ← hB, ← hq, ← hD, show (⟨#[48]⟩ : ByteArray) = ⟨[48].toArray⟩ from rfl, sgn_cat g [48], cat_lists, signed_app]
    rfl
  rw [e1] at hp1
  rw [e2] at hp2
  rw [e3] at hp3
  have z1 : ¬ 281474976710656 < A.size + D.size := by omega
  have z2 : ¬ 281474976710656 < A.size + (⟨#[48, 48]⟩ : ByteArray).size := by show ¬ 281474976710656 < A.size + 2; omega
  have z3 : ¬ 281474976710656 < B.size + D.size := by omega
  have z4 : ¬ 281474976710656 < q.size + (⟨#[49, 56, 52, 52, 54, 55, 52, 52, 48, 55, 51, 55, 48, 57, 53, 53, 49, 54, 49]⟩ : ByteArray).size := by show ¬ 281474976710656 < q.size + 19; omega
  have z5 : ¬ 281474976710656 < q.size + (⟨#[48]⟩ : ByteArray).size := by show ¬ 281474976710656 < q.size + 1; omega
  have hdi : decide ((d : Int) ≤ if g = true then 6 else 5) = (r3 == 0) := by
    rw [hr0, decide_eq_decide]
    cases g <;> simp <;> omega
  have h9 : ¬ 9 < (d : Int) := by omega
  have HT := Lib.hid htab
  have HP1 := Lib.hid hp1
  have HP2 := Lib.hid hp2
  have HP3 := Lib.hid hp3
  clear htab hp1 hp2 hp3 hr hr0 hd e1 e2 e3 hDs hqs hAs hBs hD hdd
  have hr7' : (r3 == 0) = true ∨ (r3 == 0) = false ∧ (r3 == 7) = true := by
    cases h : (r3 == 0)
    · rw [h] at hr7; exact Or.inr ⟨rfl, hr7.resolve_left (by decide)⟩
    · exact Or.inl rfl
  clear hr7
  cases g
  all_goals
    simp only [sgnStr, Bool.false_eq_true, if_true, if_false] at hdi hq
    subst hq
    rcases hr7' with hr7 | ⟨hr0, hr7⟩
    · rw [hr7] at hdi
      go_enter Tryd.func7, Tryd.ntmps7
      go_wp2_with fail
      refine (alive_any _ HT.out).mono ?_
      rintro e w1 ⟨rfl, k1⟩
      have K1 := Lib.hid k1
      clear k1
      go_wp2_with fail
      refine (HP1.out _).mono ?_
      rintro e w2 ⟨he, k2⟩
      simp only [resVal] at he
      subst he
      have K2 := Lib.hid ((K1.out.alloc _).trans k2)
      clear k2
      go_wp2_with fail
      refine (HP2.out _).mono ?_
      rintro e w3 ⟨he, k3⟩
      simp only [resVal] at he
      subst he
      have K3 := Lib.hid ((K2.out.alloc _).trans k3)
      clear k3
      go_wp2_with fail
      refine (HP3.out _).mono ?_
      rintro e w4 ⟨he, k4⟩
      simp only [resVal] at he
      subst he
      have K4 := Lib.hid (((K3.out.alloc _).alloc _).trans k4)
      clear k4
      go_wp2_with fail
      go_ret
      exact ⟨rfl, (K4.out.alloc _).all⟩
    · rw [hr0] at hdi
      go_enter Tryd.func7, Tryd.ntmps7
      go_wp2_with fail
      refine (alive_any _ HT.out).mono ?_
      rintro e w1 ⟨rfl, k1⟩
      have K1 := Lib.hid k1
      clear k1
      go_wp2_with fail
      refine (HP1.out _).mono ?_
      rintro e w2 ⟨he, k2⟩
      simp only [resVal] at he
      subst he
      have K2 := Lib.hid ((K1.out.alloc _).trans k2)
      clear k2
      go_wp2_with fail
      refine (HP2.out _).mono ?_
      rintro e w3 ⟨he, k3⟩
      simp only [resVal] at he
      subst he
      have K3 := Lib.hid ((K2.out.alloc _).trans k3)
      clear k3
      go_wp2_with fail
      refine (HP3.out _).mono ?_
      rintro e w4 ⟨he, k4⟩
      simp only [resVal] at he
      subst he
      have K4 := Lib.hid (((K3.out.alloc _).alloc _).trans k4)
      clear k4
      go_wp2_with fail
      go_ret
      exact ⟨rfl, (K4.out.alloc _).all⟩

set_option maxRecDepth 100000 in
theorem range_many (x : Int) (g : Bool) (w : World) (hd : 9 < x) (htab : PowTab w) :
    Calls Tryd.prog 7 #[.int .u8 x, .bool g] w fun e w' => e = .returned (.bool true) ∧ Below w.heap.size w w' := by
  have HT := Lib.hid htab
  clear htab
  go_enter Tryd.func7, Tryd.ntmps7
  go_wp2_with fail
  refine (alive_any _ HT.out).mono ?_
  rintro e w1 ⟨rfl, k1⟩
  have K1 := Lib.hid k1
  clear k1
  go_wp2_with fail
  go_ret
  exact ⟨rfl, K1.out.all⟩

theorem decimalRange_walk (x : Int) (g : Bool) (w : World) (hx : 0 ≤ x ∧ x ≤ 255) (htab : PowTab w) :
    Calls Tryd.prog 7 #[.int .u8 x, .bool g] w fun e w' => e = .returned (.bool true) ∧ Below w.heap.size w w' := by
  by_cases h : 9 < x
  · exact range_many x g w h htab
  · obtain ⟨d, rfl⟩ : ∃ d : Nat, x = d := ⟨x.toNat, by omega⟩
    exact range_few d g w (by omega) htab
end Go.Proofs.YtfgnjaelfjabmaaDoor
