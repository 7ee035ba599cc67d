/-
  DecimalSigns' walk.
-/
import Derived.Test.YtfgnjaelfjabmaaDoorDecAlive
namespace Go.Proofs.YtfgnjaelfjabmaaDoor
open Go.RowKit Go.Tru

/-- a text's minus and its digits -/
theorem minus_cat (l : List UInt8) : (⟨#[45]⟩ : ByteArray) ++ ⟨l.toArray⟩ = ⟨(45 :: l).toArray⟩ := by
  apply ByteArray.ext
  simp [ByteArray.data_append]

theorem str_sz (l : List UInt8) : (⟨l.toArray⟩ : ByteArray).size = l.length := by simp [ByteArray.size]

set_option maxHeartbeats 1000000 in
set_option maxRecDepth 100000 in
theorem decimalSigns_walk (v : Int) (w : World) (hv : 0 ≤ v ∧ v ≤ 18446744073709551615) (htab : PowTab w) :
    Calls Tryd.prog 8 #[.int .u64 v] w fun e w' => e = .returned (.bool true) ∧ Below w.heap.size w w' := by
  obtain ⟨n, rfl⟩ : ∃ n : Nat, v = n := ⟨v.toNat, by omega⟩
  have hn : n < 18446744073709551616 := by omega
  clear hv
  have hlen := dec_size n hn
  have hp := fun W h => print_any false n hn W h
  have hq := fun (_ : 0 < n) W h => print_any true (n - 1) (by omega) W h
  have hpar := fun W => parse_any ⟨(45 :: Lib.decDigits n).toArray⟩ W
  rw [show parseFrom Num.new (⟨(45 :: Lib.decDigits n).toArray⟩ : ByteArray).data.toList = resOf true n from sign_dec n] at hpar
  have hcat := minus_cat (Lib.decDigits n)
  have hsz := str_sz (Lib.decDigits n)
  have e1 : printW false n = Lib.decDigits n := rfl
  have e2 : 0 < n → printW true (n - 1) = 45 :: Lib.decDigits n := fun h => by
    simp only [printW, if_true]
    rw [show n - 1 + 1 = n by omega]
  rw [e1] at hp
  obtain ⟨s, hs⟩ : ∃ s, (⟨(Lib.decDigits n).toArray⟩ : ByteArray) = s := ⟨_, rfl⟩
  obtain ⟨t, ht⟩ : ∃ t, (⟨(45 :: Lib.decDigits n).toArray⟩ : ByteArray) = t := ⟨_, rfl⟩
  have hq' : ∀ (_ : 0 < n) W (_ : PowTab W), Calls Tryd.prog 11 #[.agg #[.bool true, .int .u64 ((n - 1 : Nat) : Int)]] W fun e w' => e = .returned (.string t) ∧ Keeps [] W w' := fun h W hW => by
    have := hq h W hW
    rw [e2 h, ht] at this
    exact this
  rw [hs] at hp hcat hsz
  rw [ht] at hcat hpar
  have hsum : ¬ 281474976710656 < (⟨#[45]⟩ : ByteArray).size + s.size := by rw [hsz]; show ¬ 281474976710656 < 1 + _; omega
  have HT := Lib.hid htab
  have HP := Lib.hid hp
  have HQ := Lib.hid hq'
  have HPAR := Lib.hid hpar
  clear htab hp hq hq' hpar e1 e2 hs ht hlen hsz
  by_cases h0 : n = 0
  · subst h0
    clear HQ
    go_enter Tryd.func8, Tryd.ntmps8
    go_wp2_with fail
    refine (alive_any w HT.out).mono ?_
    rintro e w1 ⟨rfl, k1⟩
    have K1 := Lib.hid k1
    clear k1
    go_wp2_with fail
    refine (HP.out _ (pow_keeps HT.out K1.out)).mono ?_
    rintro e w2 ⟨rfl, k2⟩
    have K2 := Lib.hid (K1.out.trans k2)
    clear k2
    go_wp2_with fail
    refine (HPAR.out _).mono ?_
    rintro e w3 ⟨he, k3⟩
    simp only [resOf, resVal, if_true] at he
    subst he
    have K3 := Lib.hid (K2.out.trans k3)
    clear k3
    go_wp2_with fail
    go_ret
    exact ⟨rfl, (K3.out.alloc _).all⟩
  · have hpos : 0 < n := by omega
    have h0i : ((n : Int) == 0) = false := by rw [beq_eq_false_iff_ne]; omega
    have hr : resOf true n = (true, n - 1, 0) := by
      unfold resOf
      rw [if_pos rfl, if_neg h0, if_pos (by omega)]
    have hw1 : IntKind.u64.wrap ((n : Int) - 1) = ((n - 1 : Nat) : Int) := by rw [IntKind.wrap_u64]; omega
    have HPOS := Lib.hid hpos
    have HR := Lib.hid hr
    clear hpos h0 hr hn
    go_enter Tryd.func8, Tryd.ntmps8
    go_wp2_with fail
    refine (alive_any w HT.out).mono ?_
    rintro e w1 ⟨rfl, k1⟩
    have K1 := Lib.hid k1
    clear k1
    go_wp2_with fail
    refine (HP.out _ (pow_keeps HT.out K1.out)).mono ?_
    rintro e w2 ⟨rfl, k2⟩
    have K2 := Lib.hid (K1.out.trans k2)
    clear k2
    go_wp2_with fail
    refine (HPAR.out _).mono ?_
    rintro e w3 ⟨he, k3⟩
    rw [HR.out] at he
    simp only [resVal] at he
    subst he
    have K3 := Lib.hid (K2.out.trans k3)
    clear k3
    go_wp2_with fail
    refine (HQ.out HPOS.out _ (Lib.tabIs_alloc (pow_keeps HT.out K3.out) _)).mono ?_
    rintro e w4 ⟨rfl, k4⟩
    have K4 := Lib.hid ((K3.out.alloc _).trans k4)
    clear k4
    go_wp2_with fail
    go_ret
    exact ⟨rfl, K4.out.all⟩
end Go.Proofs.YtfgnjaelfjabmaaDoor
