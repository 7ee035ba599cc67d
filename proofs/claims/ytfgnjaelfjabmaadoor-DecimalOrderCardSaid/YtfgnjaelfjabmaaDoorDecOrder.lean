/-
  DecimalOrder's walk.
-/
import Derived.Test.YtfgnjaelfjabmaaDoorDecAlive
import Derived.Deep.RegionHeld
import Derived.Deep.QuietTactic
import Derived.BigQuiet
namespace Go.Proofs.YtfgnjaelfjabmaaDoor
open Go.RowKit Go.Tru

set_option maxHeartbeats 2000000 in
set_option maxRecDepth 100000 in
theorem order_case (a b : Nat) (w : World) (ha : a < 18446744073709551616) (hb : b < 18446744073709551616) (htab : PowTab w) :
    Calls Tryd.prog 4 #[.int .u64 (a : Int), .int .u64 (b : Int)] w fun e w' => e = .returned (.bool true) ∧ Below w.heap.size w w' := by
  have hpa := fun W h => print_any false a ha W h
  have hpb := fun W h => print_any false b hb W h
  have hpn := fun W h => print_any true a ha W h
  have hp1 := fun (h1 : ¬ a = 18446744073709551615) W h => print_any false (a + 1) (by omega) W h
  have hless := dec_less a b
  have hla := dec_size a ha
  have hlb := dec_size b hb
  rw [show printW false a = Lib.decDigits a from rfl] at hpa
  rw [show printW false b = Lib.decDigits b from rfl] at hpb
  rw [show printW true a = 45 :: Lib.decDigits (a + 1) from rfl] at hpn
  rw [show printW false (a + 1) = Lib.decDigits (a + 1) from rfl] at hp1
  have hlc : 1 ≤ (Lib.decDigits (a + 1)).length := by
    have := (dec_canon (a + 1)).1.2.1
    exact List.length_pos_iff.2 this
  have hlc2 : (Lib.decDigits (a + 1)).length ≤ 20 := by
    by_cases ht : a = 18446744073709551615
    · rw [ht, dec_top]; decide
    · exact dec_size _ (by omega)
  have hsa : (⟨(Lib.decDigits a).toArray⟩ : ByteArray).size = (Lib.decDigits a).length := by simp [ByteArray.size]
  have hsb : (⟨(Lib.decDigits b).toArray⟩ : ByteArray).size = (Lib.decDigits b).length := by simp [ByteArray.size]
  have hda : (⟨(Lib.decDigits a).toArray⟩ : ByteArray).data.toList = Lib.decDigits a := rfl
  have hdb : (⟨(Lib.decDigits b).toArray⟩ : ByteArray).data.toList = Lib.decDigits b := rfl
  obtain ⟨l, hl⟩ : ∃ l, Lib.decDigits (a + 1) = l := ⟨_, rfl⟩
  rw [hl] at hpn hp1 hlc hlc2
  obtain ⟨s, hs⟩ : ∃ s, (⟨(Lib.decDigits a).toArray⟩ : ByteArray) = s := ⟨_, rfl⟩
  obtain ⟨t, ht⟩ : ∃ t, (⟨(Lib.decDigits b).toArray⟩ : ByteArray) = t := ⟨_, rfl⟩
  rw [hs] at hpa hsa hda
  rw [ht] at hpb hsb hdb
  rw [← hda, ← hdb] at hless
  rw [← hda] at hla hsa
  rw [← hdb] at hlb hsb
  obtain ⟨u, hu⟩ : ∃ u : ByteArray, (⟨(45 :: l).toArray⟩ : ByteArray) = u := ⟨_, rfl⟩
  obtain ⟨r, hr⟩ : ∃ r : ByteArray, (⟨l.toArray⟩ : ByteArray) = r := ⟨_, rfl⟩
  have hus : u.size = l.length + 1 := by rw [← hu]; simp [ByteArray.size]
  have hus1 : 2 ≤ u.size := by omega
  have hus2 : u.size ≤ 21 := by omega
  rw [hu] at hpn
  rw [hr] at hp1
  have hux : ∀ (h : 0 < u.size), u[0] = 45 := by subst hu; intro h; rfl
  have hue : u.extract 1 u.size = r := by
    rw [hus, ← hu, ← hr]
    apply ByteArray.ext
    simp
  have HT := Lib.hid htab
  have HPA := Lib.hid hpa
  have HPB := Lib.hid hpb
  have HPN := Lib.hid hpn
  have HP1 := Lib.hid hp1
  have HUE := Lib.hid hue
  have HUX := Lib.hid hux
  have hlss : decide (s.size < t.size) = true ∧ decide (a < b) = true ∨ decide (s.size < t.size) = false ∧ ((s.size : Int) == (t.size : Int)) = true ∧ Op.bytesLess s.toList t.toList = decide (a < b) ∨ decide (s.size < t.size) = false ∧ ((s.size : Int) == (t.size : Int)) = false ∧ decide (a < b) = false := by
    rw [← hsa, ← hsb, ← Lib.toList_data, ← Lib.toList_data] at hless
    by_cases h1 : s.size < t.size
    · left
      simp only [h1, decide_true, Bool.true_or] at hless
      exact ⟨by simpa using h1, hless.symm⟩
    · right
      simp only [h1, decide_false, Bool.false_or] at hless
      by_cases h2 : s.size = t.size
      · left
        simp only [h2, decide_true, Bool.true_and] at hless
        exact ⟨by simpa using h1, by rw [beq_iff_eq]; omega, hless⟩
      · right
        simp only [h2, decide_false, Bool.false_and] at hless
        exact ⟨by simpa using h1, by rw [beq_eq_false_iff_ne]; omega, hless.symm⟩
  clear htab hpa hpb hpn hp1 hlc hlc2 hs ht hl hu hr hda hdb hsa hsb hla hlb hless hue hux hus
  have huxx : 0 < u.size := by omega
  have hux0 := HUX.out huxx
  have hus3 : decide (2 ≤ (u.size : Int)) = true := by simp; omega
  have hmain : ∀ d : Bool, decide (a < b) = d → Calls Tryd.prog 4 #[.int .u64 (a : Int), .int .u64 (b : Int)] w fun e w' => e = .returned (.bool true) ∧ Below w.heap.size w w' := by
    intro d hd
    rw [hd] at hlss
    by_cases hmax : a = 18446744073709551615
    · subst hmax
      have hdi : decide ((18446744073709551615 : Int) < (b : Int)) = d := by rw [← hd, decide_eq_decide]; omega
      replace HPA : Hid (∀ (W : World), PowTab W → Calls Tryd.prog 11 #[.agg #[.bool false, .int .u64 18446744073709551615]] W fun e w' => e = .returned (.string s) ∧ Keeps [] W w') := Lib.hid HPA.out
      replace HPN : Hid (∀ (W : World), PowTab W → Calls Tryd.prog 11 #[.agg #[.bool true, .int .u64 18446744073709551615]] W fun e w' => e = .returned (.string u) ∧ Keeps [] W w') := Lib.hid HPN.out
      show Calls Tryd.prog 4 #[.int .u64 18446744073709551615, .int .u64 (b : Int)] w fun e w' => e = .returned (.bool true) ∧ Below w.heap.size w w'
      clear HP1 ha hb HUE hd
      rcases hlss with ⟨q1, rfl⟩ | ⟨q1, q2, q3⟩ | ⟨q1, q2, rfl⟩
      all_goals
        go_enter Tryd.func4, Tryd.ntmps4
        go_wp2_with fail
        refine (alive_any w HT.out).mono ?_
        rintro e w1 ⟨rfl, k1⟩
        have K1 := Lib.hid k1
        clear k1
        go_wp2_with fail
        refine (HPA.out _ (pow_keeps HT.out K1.out)).mono ?_
        rintro e w2 ⟨rfl, k2⟩
        have K2 := Lib.hid (K1.out.trans k2)
        clear k2
        go_wp2_with fail
        refine (HPB.out _ (pow_keeps HT.out K2.out)).mono ?_
        rintro e w3 ⟨rfl, k3⟩
        have K3 := Lib.hid (K2.out.trans k3)
        clear k3
        go_wp2_with fail
        refine (HPN.out _ (pow_keeps HT.out K3.out)).mono ?_
        rintro e w4 ⟨rfl, k4⟩
        have K4 := Lib.hid (K3.out.trans k4)
        have T4 := Lib.hid (pow_keeps HT.out K4.out)
        clear k4
        go_wp2_with fail
        go_region
        all_goals
          have K5 := Lib.hid K4.out.drew
          go_wp2_with fail
          go_ret
          exact ⟨rfl, K5.out.all⟩
    · have hnm : ((a : Int) == 18446744073709551615) = false := by rw [beq_eq_false_iff_ne]; omega
      have hwr : IntKind.u64.wrap ((a : Int) + 1) = ((a + 1 : Nat) : Int) := by rw [IntKind.wrap_u64]; omega
      have HP := Lib.hid (HP1.out hmax)
      clear hmax ha hb
      rcases hlss with ⟨q1, rfl⟩ | ⟨q1, q2, q3⟩ | ⟨q1, q2, rfl⟩
      all_goals
        go_enter Tryd.func4, Tryd.ntmps4
        go_wp2_with fail
        refine (alive_any w HT.out).mono ?_
        rintro e w1 ⟨rfl, k1⟩
        have K1 := Lib.hid k1
        clear k1
        go_wp2_with fail
        refine (HPA.out _ (pow_keeps HT.out K1.out)).mono ?_
        rintro e w2 ⟨rfl, k2⟩
        have K2 := Lib.hid (K1.out.trans k2)
        clear k2
        go_wp2_with fail
        refine (HPB.out _ (pow_keeps HT.out K2.out)).mono ?_
        rintro e w3 ⟨rfl, k3⟩
        have K3 := Lib.hid (K2.out.trans k3)
        clear k3
        go_wp2_with fail
        refine (HPN.out _ (pow_keeps HT.out K3.out)).mono ?_
        rintro e w4 ⟨rfl, k4⟩
        have K4 := Lib.hid (K3.out.trans k4)
        have T4 := Lib.hid (pow_keeps HT.out K4.out)
        clear k4
        go_wp2_with fail
        go_region_held (fun _ => True) (trivial) ((go_at_call 11; refine (HP.out _ (by first | exact T4.out | exact pow_keeps T4.out (Keeps.refl _ _).drew)).mono ?_; rintro e w5 ⟨rfl, k5⟩))
        all_goals
          have K5 := Lib.hid (K4.out.drew.trans k5)
          clear k5
          go_wp2_with fail
          go_ret
          refine ⟨?_, K5.out.all⟩
          refine ret_bool ?_
          rw [HUE.out, beq_self_eq_true]
  exact hmain _ rfl

theorem decimalOrder_walk (x y : Int) (w : World) (hx : 0 ≤ x ∧ x ≤ 18446744073709551615) (hy : 0 ≤ y ∧ y ≤ 18446744073709551615) (htab : PowTab w) :
    Calls Tryd.prog 4 #[.int .u64 x, .int .u64 y] w fun e w' => e = .returned (.bool true) ∧ Below w.heap.size w w' := by
  obtain ⟨a, rfl⟩ : ∃ n : Nat, x = n := ⟨x.toNat, by omega⟩
  obtain ⟨b, rfl⟩ : ∃ n : Nat, y = n := ⟨y.toNat, by omega⟩
  exact order_case a b w (by omega) (by omega) htab
end Go.Proofs.YtfgnjaelfjabmaaDoor
