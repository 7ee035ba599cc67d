/-
  DecimalEnds' walk.
-/
import Derived.Test.YtfgnjaelfjabmaaDoorDecAlive
namespace Go.Proofs.YtfgnjaelfjabmaaDoor
open Go.RowKit Go.Tru

theorem print_size (g : Bool) (m : Nat) (hm : m < 18446744073709551616) : (printW g m).length ≤ 21 := by
  cases g
  · have := dec_size m hm
    simp only [printW, Bool.false_eq_true, if_false]
    omega
  · by_cases ht : m = 18446744073709551615
    · subst ht
      simp only [printW, if_true]
      rw [dec_top]
      decide
    · have := dec_size (m + 1) (by omega)
      simp only [printW, if_true, List.length_cons]
      omega

theorem ran_v {n : Num} (hv : n.v < 18446744073709551616) : ∀ (l : List UInt8), (n.ran l).v < 18446744073709551616 := by
  intro l
  induction l generalizing n with
  | nil => exact hv
  | cons b l ih => exact ih (after_v hv _)

/-- the loop: so many digits have been stepped -/
def EndRel (g : Bool) (m : Nat) (w : World) (bB : Nat) (bN : Nat) (i : Value) (wr : World) : Prop :=
  ∃ k : Nat, k ≤ (printW g m).length ∧ i = .int .i64 k ∧ Has wr bB [.bool g, .int .u64 m] 24 ∧ Has wr bN (Num.new.ran ((printW g m).take k)).cells 34 ∧ Keeps [] w wr

set_option maxHeartbeats 2000000 in
set_option maxRecDepth 100000 in
theorem ends_other (g : Bool) (m : Nat) (b : Int) (w : World) (hm : m < 18446744073709551616) (hb0 : 0 ≤ b) (hb1 : b ≤ 255) (hd : ¬ (48 ≤ b ∧ b ≤ 57)) (n46 : ¬ b = 46) (n101 : ¬ b = 101) (n69 : ¬ b = 69) (htab : PowTab w) :
    Calls Tryd.prog 5 #[.agg #[.bool g, .int .u64 (m : Int)], .int .u8 b] w fun e w' => e = .returned (.bool true) ∧ Below w.heap.size w w' := by
  have hdig : isDig b = false := by simpa [isDig] using hd
  obtain ⟨z1, z2, z3, z4⟩ := end_print g m hm hdig (by simp [n46, n101, n69])
  have ztk := takes_at _ (takes_print g m)
  have hv := ran_v (n := Num.new) (by decide)
  have hps := print_size g m hm
  have hp := fun W h => print_any g m hm W h
  have hbs : (⟨(printW g m).toArray⟩ : ByteArray).size = (printW g m).length := by simp [ByteArray.size]
  obtain ⟨s, hs⟩ : ∃ s, (⟨(printW g m).toArray⟩ : ByteArray) = s := ⟨_, rfl⟩
  have hsd : s.data.toList = printW g m := by rw [← hs]
  rw [hs] at hp hbs
  have HT := Lib.hid htab
  have HP := Lib.hid hp
  have Z1 := Lib.hid z1
  have Z2 := Lib.hid z2
  have Z3 := Lib.hid z3
  have Z4 := Lib.hid z4
  have ZT := Lib.hid ztk
  have HV := Lib.hid hv
  have HPS := Lib.hid hps
  have HBS := Lib.hid hbs
  have HSD := Lib.hid hsd
  have HM := Lib.hid hm
  have q46 : (b == 46) = false := by simpa using n46
  have q101 : (b == 101) = false := by simpa using n101
  have q69 : (b == 69) = false := by simpa using n69
  clear htab hp z1 z2 z3 z4 ztk hv hps hbs hsd hdig hm hs n46 n101 n69
  rcases (show b < 48 ∨ 57 < b by omega) with hl | hl
  all_goals
    clear hd
    go_enter Tryd.func5, Tryd.ntmps5
    go_wp2_with fail
    refine (alive_any _ (Lib.tabIs_alloc HT.out _)).mono ?_
    rintro e w1 ⟨rfl, k1⟩
    have A1 := (Has.new' w #[.bool g, .int .u64 (m : Int)] 24 rfl).keeps k1 (by simp)
    have K1 := Lib.hid (((Keeps.refl [] w).alloc (.cells #[.bool g, .int .u64 (m : Int)] 24)).trans k1)
    have A2 := A1.alloc (.cells #[.bool false, .bool false, .bool false, .bool false, .int .u64 0, .bool false, .bool false, .int .i64 0] 34)
    have b0 := A2.cell 0
    have b1 := A2.cell 1
    simp only [List.getElem?_cons_zero, List.getElem?_cons_succ] at b0 b1
    have HA1 := Lib.hid A1
    have l1 := A1.lt
    clear k1 A1 A2
    go_wp2_with fail
    refine (HP.out _ (Lib.tabIs_alloc (pow_keeps HT.out K1.out) _)).mono ?_
    rintro e w2 ⟨rfl, k2⟩
    have N2 := Lib.hid ((Has.new' w1 #[.bool false, .bool false, .bool false, .bool false, .int .u64 0, .bool false, .bool false, .int .i64 0] 34 rfl).keeps k2 (by simp))
    have K2 := Lib.hid ((K1.out.alloc (.cells #[.bool false, .bool false, .bool false, .bool false, .int .u64 0, .bool false, .bool false, .int .i64 0] 34)).trans k2)
    have HA2 := Lib.hid ((HA1.out.alloc (.cells #[.bool false, .bool false, .bool false, .bool false, .int .u64 0, .bool false, .bool false, .int .i64 0] 34)).keeps k2 (by simp))
    have ll := HA1.out.lt
    clear k2 b0 b1
    go_wp2_with fail
    go_loopw [7] (fun i wr => EndRel g m w w.heap.size w1.heap.size i wr) (fun i _ => 100 - (intOf i).toNat)
    case atStart => exact ⟨0, Nat.zero_le _, rfl, HA2.out, N2.out, K2.out⟩
    case round =>
      obtain ⟨k, hk, rfl, hA, hN, hK⟩ := hrel
      have HA := Lib.hid hA
      have HN := Lib.hid hN
      have HK := Lib.hid hK
      have lN := hN.lt
      clear hA hN hK
      have hps := HPS.out
      have hbs := HBS.out
      have hz := HK.out.size
      have hz1 := K1.out.size
      by_cases hlt : k < s.size
      · have hkl : k < (printW g m).length := by omega
        obtain ⟨x, hx⟩ : ∃ x : Int, (s[k].toNat : Int) = x := ⟨_, rfl⟩
        have hx0 : 0 ≤ x ∧ x ≤ 255 := by have := s[k].toNat_lt; omega
        have hget : (printW g m)[k]? = some s[k] := by
          have : (printW g m)[k]? = s.data.toList[k]? := by rw [HSD.out]
          rw [this, List.getElem?_eq_getElem (by rw [HSD.out]; exact hkl)]
          rfl
        obtain ⟨t1, t2, t3⟩ := ZT.out k _ hget
        rw [hx] at t1 t2 t3
        have hstep := num_step w1.heap.size 34 (Num.new.ran ((printW g m).take k)) x wr HN.out hx0 (HV.out _)
        rw [t1, t2, t3] at hstep
        have HST := Lib.hid hstep
        clear hstep t1 t2 t3 hget
        have hki : (k : Int) < (s.size : Int) := by omega
        go_wp2_with fail
        refine HST.out.mono ?_
        rintro e w3 ⟨rfl, n3, k3⟩
        have N3 := Lib.hid n3
        have A3 := Lib.hid (HA.out.keeps k3 (by simp; omega))
        have K3 := Lib.hid (HK.out.trans' k3 (fun i hi => Or.inr (by rw [List.mem_singleton.1 hi]; omega)))
        clear n3 k3
        go_wp2_with fail
        go_roundw
        case rel => exact ⟨k + 1, by omega, by go_num, A3.out, N3.out, K3.out⟩
        case measure => simp [intOf]; omega
      · have hkn : k = (printW g m).length := by omega
        have hge : ¬ (k : Int) < (s.size : Int) := by omega
        have hn := HN.out
        rw [hkn, List.take_length] at hn
        have hstep := num_step w1.heap.size 34 (Num.new.ran (printW g m)) b wr hn (by omega) (HV.out _)
        rw [Z2.out, Z1.out, Z3.out] at hstep
        have HST := Lib.hid hstep
        clear hstep hn hkn
        go_wp2_with fail
        refine HST.out.mono ?_
        rintro e w3 ⟨rfl, n3, k3⟩
        have A3 := HA.out.keeps k3 (by simp; omega)
        have K3 := Lib.hid (HK.out.trans' k3 (fun i hi => Or.inr (by rw [List.mem_singleton.1 hi]; omega)))
        have hend := num_end w1.heap.size 34 (Num.new.ran (printW g m)) w3 n3 (HV.out _)
        rw [Z4.out] at hend
        simp only [resVal] at hend
        have HE := Lib.hid hend
        have N3 := Lib.hid n3
        have HA3 := Lib.hid A3
        clear hend n3 k3 A3
        go_wp2_with fail
        refine HE.out.mono ?_
        rintro e w4 ⟨rfl, k4⟩
        have n4 := (N3.out.keeps k4 (by simp)).alloc (.cells #[.bool g, .int .u64 (m : Int)] 24)
        have A4 := (Has.new' w4 #[.bool g, .int .u64 (m : Int)] 24 rfl)
        have B4 := Lib.hid ((HA3.out.keeps k4 (by simp)).alloc (.cells #[.bool g, .int .u64 (m : Int)] 24))
        have K4 := Lib.hid ((K3.out.trans k4).alloc (.cells #[.bool g, .int .u64 (m : Int)] 24))
        have hend := num_end w1.heap.size 34 (Num.new.ran (printW g m)) _ n4 (HV.out _)
        rw [Z4.out] at hend
        simp only [resVal] at hend
        have HE4 := Lib.hid hend
        have HA4 := Lib.hid A4
        clear hend n4 k4 A4 HE
        go_wp2_with fail
        refine HE4.out.mono ?_
        rintro e w5 ⟨rfl, k5⟩
        have A5 := (HA4.out.keeps k5 (by simp)).alloc (.cells #[.bool g, .int .u64 (m : Int)] 24)
        have B5 := (B4.out.keeps k5 (by simp)).alloc (.cells #[.bool g, .int .u64 (m : Int)] 24)
        have c0 := A5.cell 0
        have c1 := A5.cell 1
        have d0 := B5.cell 0
        have d1 := B5.cell 1
        simp only [List.getElem?_cons_zero, List.getElem?_cons_succ] at c0 c1 d0 d1
        have K5 := Lib.hid (K4.out.trans k5)
        clear k5 A5 B5
        go_wp2_with fail
        go_ret
        exact ⟨rfl, (K5.out.alloc _).all⟩

set_option maxRecDepth 100000 in
theorem ends_early (g : Bool) (m : Nat) (b : Int) (w : World) (hb : 48 ≤ b ∧ b ≤ 57 ∨ b = 46 ∨ b = 101 ∨ b = 69) (htab : PowTab w) :
    Calls Tryd.prog 5 #[.agg #[.bool g, .int .u64 (m : Int)], .int .u8 b] w fun e w' => e = .returned (.bool true) ∧ Below w.heap.size w w' := by
  have HT := Lib.hid htab
  clear htab
  rcases hb with ⟨h1, h2⟩ | rfl | rfl | rfl
  all_goals
    go_enter Tryd.func5, Tryd.ntmps5
    go_wp2_with fail
    refine (alive_any _ (Lib.tabIs_alloc HT.out _)).mono ?_
    rintro e w1 ⟨rfl, k1⟩
    have K1 := Lib.hid (((Keeps.refl [] w).alloc (.cells #[.bool g, .int .u64 (m : Int)] 24)).trans k1)
    clear k1
    go_wp2_with fail
    go_ret
    exact ⟨rfl, K1.out.all⟩

theorem decimalEnds_walk (g : Bool) (m : Nat) (b : Int) (w : World) (hm : m < 18446744073709551616) (hb : 0 ≤ b ∧ b ≤ 255) (htab : PowTab w) :
    Calls Tryd.prog 5 #[.agg #[.bool g, .int .u64 (m : Int)], .int .u8 b] w fun e w' => e = .returned (.bool true) ∧ Below w.heap.size w w' := by
  by_cases h : 48 ≤ b ∧ b ≤ 57 ∨ b = 46 ∨ b = 101 ∨ b = 69
  · exact ends_early g m b w h htab
  · exact ends_other g m b w hm hb.1 hb.2 (fun x => h (Or.inl x)) (fun x => h (Or.inr (Or.inl x))) (fun x => h (Or.inr (Or.inr (Or.inl x)))) (fun x => h (Or.inr (Or.inr (Or.inr x)))) htab
end Go.Proofs.YtfgnjaelfjabmaaDoor
