/-
  DecimalBack's walk.
-/
import Derived.Test.YtfgnjaelfjabmaaDoorDecAlive
namespace Go.Proofs.YtfgnjaelfjabmaaDoor
open Go.RowKit Go.Tru

set_option maxHeartbeats 1000000 in
set_option maxRecDepth 100000 in
theorem decimalBack_walk (g : Bool) (m : Nat) (s : ByteArray) (w : World) (hm : m < 18446744073709551616) (_ : s.size ≤ maxLen) (htab : PowTab w) :
    Calls Tryd.prog 3 #[.agg #[.bool g, .int .u64 (m : Int)], .string s] w fun e w' => e = .returned (.bool true) ∧ Below w.heap.size w w' := by
  have hp := fun W h => print_any g m hm W h
  have hpar := fun W => parse_any ⟨(printW g m).toArray⟩ W
  rw [show parseFrom Num.new (⟨(printW g m).toArray⟩ : ByteArray).data.toList = (g, m, 0) from parse_print g m hm] at hpar
  have hpar2 := fun W => parse_any s W
  obtain ⟨t, ht⟩ : ∃ t, (⟨(printW g m).toArray⟩ : ByteArray) = t := ⟨_, rfl⟩
  rw [ht] at hp hpar
  clear ht
  have HT := Lib.hid htab
  have HP := Lib.hid hp
  have HPAR := Lib.hid hpar
  clear htab hp hpar
  by_cases hsz : 60 < (s.size : Int)
  · clear hpar2
    go_enter Tryd.func3, Tryd.ntmps3
    go_wp2_with fail
    refine (alive_any _ (Lib.tabIs_alloc HT.out _)).mono ?_
    rintro e w1 ⟨rfl, k1⟩
    have K1 := Lib.hid (((Keeps.refl [] w).alloc _).trans k1)
    clear k1
    go_wp2_with fail
    go_ret
    exact ⟨rfl, K1.out.all⟩
  · obtain ⟨⟨r1, r2, r3⟩, hr⟩ : ∃ r, parseFrom Num.new s.data.toList = r := ⟨_, rfl⟩
    rw [hr] at hpar2
    have hback : r3 = 0 → r2 < 18446744073709551616 ∧ (printW r1 r2 = s.data.toList ∨ s.data.toList = [45, 48] ∧ r1 = false ∧ r2 = 0) := fun h => parse_back (h ▸ hr)
    have HB := Lib.hid hback
    have HPAR2 := Lib.hid hpar2
    clear hback hpar2 hr
    by_cases hr3 : r3 = 0
    · subst hr3
      obtain ⟨hr2, hor⟩ := HB.out rfl
      have hp2 := fun W h => print_any r1 r2 hr2 W h
      clear hr2
      rcases hor with hor | ⟨h1, rfl, rfl⟩
      · rw [hor] at hp2
        have hes : (⟨s.data.toList.toArray⟩ : ByteArray) = s := by apply ByteArray.ext; simp
        rw [hes] at hp2
        have HP2 := Lib.hid hp2
        clear hp2 hor hes HB
        go_enter Tryd.func3, Tryd.ntmps3
        go_wp2_with fail
        refine (alive_any _ (Lib.tabIs_alloc HT.out _)).mono ?_
        rintro e w1 ⟨rfl, k1⟩
        have A1 := (Has.new' w #[.bool g, .int .u64 (m : Int)] 24 rfl).keeps k1 (by simp)
        have K1 := Lib.hid (((Keeps.refl [] w).alloc (.cells #[.bool g, .int .u64 (m : Int)] 24)).trans k1)
        have b0 := A1.cell 0
        have b1 := A1.cell 1
        simp only [List.getElem?_cons_zero, List.getElem?_cons_succ] at b0 b1
        have HA1 := Lib.hid A1
        clear k1 A1
        go_wp2_with fail
        refine (HP.out _ (pow_keeps HT.out K1.out)).mono ?_
        rintro e w2 ⟨rfl, k2⟩
        have K2 := Lib.hid (K1.out.trans k2)
        have HA2 := Lib.hid (HA1.out.keeps k2 (by simp))
        clear k2 b0 b1 HA1
        go_wp2_with fail
        refine (HPAR.out _).mono ?_
        rintro e w3 ⟨he, k3⟩
        simp only [resVal] at he
        subst he
        have A3 := HA2.out.keeps k3 (by simp)
        have b0 := A3.cell 0
        have b1 := A3.cell 1
        have l3 := A3.lt
        simp only [List.getElem?_cons_zero, List.getElem?_cons_succ] at b0 b1
        have K3 := Lib.hid (K2.out.trans k3)
        clear k3 A3 HA2
        go_wp2_with fail
        refine (HPAR2.out _).mono ?_
        rintro e w4 ⟨he, k4⟩
        simp only [resVal] at he
        subst he
        have K4 := Lib.hid ((K3.out.alloc _).trans k4)
        clear k4 b0 b1
        go_wp2_with fail
        refine (HP2.out _ (Lib.tabIs_alloc (pow_keeps HT.out K4.out) _)).mono ?_
        rintro e w5 ⟨rfl, k5⟩
        have K5 := Lib.hid ((K4.out.alloc _).trans k5)
        clear k5
        go_wp2_with fail
        go_ret
        exact ⟨rfl, K5.out.all⟩
      · have hs2 : s = (⟨#[45, 48]⟩ : ByteArray) := by
          apply ByteArray.ext
          apply Array.toList_inj.1
          rw [h1]
        subst hs2
        have hz : printW false 0 = [48] := by simp only [printW, Bool.false_eq_true, if_false]; rw [Lib.decDigits_one (by omega)]; rfl
        rw [hz] at hp2
        have HP2 := Lib.hid hp2
        clear hz
        clear hp2 h1 HB hsz
        go_enter Tryd.func3, Tryd.ntmps3
        go_wp2_with fail
        refine (alive_any _ (Lib.tabIs_alloc HT.out _)).mono ?_
        rintro e w1 ⟨rfl, k1⟩
        have A1 := (Has.new' w #[.bool g, .int .u64 (m : Int)] 24 rfl).keeps k1 (by simp)
        have K1 := Lib.hid (((Keeps.refl [] w).alloc (.cells #[.bool g, .int .u64 (m : Int)] 24)).trans k1)
        have b0 := A1.cell 0
        have b1 := A1.cell 1
        simp only [List.getElem?_cons_zero, List.getElem?_cons_succ] at b0 b1
        have HA1 := Lib.hid A1
        clear k1 A1
        go_wp2_with fail
        refine (HP.out _ (pow_keeps HT.out K1.out)).mono ?_
        rintro e w2 ⟨rfl, k2⟩
        have K2 := Lib.hid (K1.out.trans k2)
        have HA2 := Lib.hid (HA1.out.keeps k2 (by simp))
        clear k2 b0 b1 HA1
        go_wp2_with fail
        refine (HPAR.out _).mono ?_
        rintro e w3 ⟨he, k3⟩
        simp only [resVal] at he
        subst he
        have A3 := HA2.out.keeps k3 (by simp)
        have b0 := A3.cell 0
        have b1 := A3.cell 1
        have l3 := A3.lt
        simp only [List.getElem?_cons_zero, List.getElem?_cons_succ] at b0 b1
        have K3 := Lib.hid (K2.out.trans k3)
        clear k3 A3 HA2
        go_wp2_with fail
        refine (HPAR2.out _).mono ?_
        rintro e w4 ⟨he, k4⟩
        simp only [resVal] at he
        subst he
        have K4 := Lib.hid ((K3.out.alloc _).trans k4)
        clear k4 b0 b1
        go_wp2_with fail
        refine (HP2.out _ (Lib.tabIs_alloc (pow_keeps HT.out K4.out) _)).mono ?_
        rintro e w5 ⟨rfl, k5⟩
        have K5 := Lib.hid ((K4.out.alloc _).trans k5)
        have A5 := (Has.new' w4 #[.bool false, .int .u64 0] 24 rfl).keeps k5 (by simp)
        have b0 := A5.cell 0
        have b1 := A5.cell 1
        simp only [List.getElem?_cons_zero, List.getElem?_cons_succ] at b0 b1
        clear k5 A5
        go_wp2_with fail
        go_ret
        exact ⟨rfl, K5.out.all⟩
    · have hr3' : (r3 != 0) = true := by simpa using hr3
      have hr4 : (r3 == 0) = false := by simpa using hr3
      clear HB hr3
      go_enter Tryd.func3, Tryd.ntmps3
      go_wp2_with fail
      refine (alive_any _ (Lib.tabIs_alloc HT.out _)).mono ?_
      rintro e w1 ⟨rfl, k1⟩
      have A1 := (Has.new' w #[.bool g, .int .u64 (m : Int)] 24 rfl).keeps k1 (by simp)
      have K1 := Lib.hid (((Keeps.refl [] w).alloc (.cells #[.bool g, .int .u64 (m : Int)] 24)).trans k1)
      have b0 := A1.cell 0
      have b1 := A1.cell 1
      simp only [List.getElem?_cons_zero, List.getElem?_cons_succ] at b0 b1
      have HA1 := Lib.hid A1
      clear k1 A1
      go_wp2_with fail
      refine (HP.out _ (pow_keeps HT.out K1.out)).mono ?_
      rintro e w2 ⟨rfl, k2⟩
      have K2 := Lib.hid (K1.out.trans k2)
      have HA2 := Lib.hid (HA1.out.keeps k2 (by simp))
      clear k2 b0 b1 HA1
      go_wp2_with fail
      refine (HPAR.out _).mono ?_
      rintro e w3 ⟨he, k3⟩
      simp only [resVal] at he
      subst he
      have A3 := HA2.out.keeps k3 (by simp)
      have b0 := A3.cell 0
      have b1 := A3.cell 1
      have l3 := A3.lt
      simp only [List.getElem?_cons_zero, List.getElem?_cons_succ] at b0 b1
      have K3 := Lib.hid (K2.out.trans k3)
      clear k3 A3 HA2
      go_wp2_with fail
      refine (HPAR2.out _).mono ?_
      rintro e w4 ⟨he, k4⟩
      simp only [resVal] at he
      subst he
      have K4 := Lib.hid ((K3.out.alloc _).trans k4)
      clear k4 b0 b1
      go_wp2_with fail
      go_ret
      exact ⟨rfl, (K4.out.alloc _).all⟩
end Go.Proofs.YtfgnjaelfjabmaaDoor
