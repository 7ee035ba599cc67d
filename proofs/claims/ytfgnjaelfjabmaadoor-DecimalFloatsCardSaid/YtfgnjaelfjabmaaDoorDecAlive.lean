/-
  The law's alive.
-/
import Derived.Test.YtfgnjaelfjabmaaDoorDecPrint
namespace Go.Proofs.YtfgnjaelfjabmaaDoor
open Go.RowKit Go.Tru

def lowStr : ByteArray := ⟨#[45, 49, 56, 52, 52, 54, 55, 52, 52, 48, 55, 51, 55, 48, 57, 53, 53, 49, 54, 49, 54]⟩
def highStr : ByteArray := ⟨#[49, 56, 52, 52, 54, 55, 52, 52, 48, 55, 51, 55, 48, 57, 53, 53, 49, 54, 49, 54]⟩

theorem low_print : printW true 18446744073709551615 = [45, 49, 56, 52, 52, 54, 55, 52, 52, 48, 55, 51, 55, 48, 57, 53, 53, 49, 54, 49, 54] := by
  simp only [printW, if_true]
  rw [dec_top]

theorem parse_low : parseFrom Num.new lowStr.data.toList = (true, 18446744073709551615, 0) := by
  have h := parse_print true 18446744073709551615 (by omega)
  rw [low_print] at h
  exact h

theorem parse_hi : parseFrom Num.new highStr.data.toList = (false, 0, 7) := by
  have h := range_last false 6 (by omega)
  exact h

set_option maxHeartbeats 1000000 in
set_option maxRecDepth 100000 in
theorem alive_any (w : World) (htab : PowTab w) :
    Calls Tryd.prog 9 #[] w fun e w' => e = .returned (.bool true) ∧ Keeps [] w w' := by
  have HT := Lib.hid htab
  clear htab
  go_enter Tryd.func9, Tryd.ntmps9
  go_wp2_with fail
  refine (parse_any lowStr w).mono ?_
  rintro e w1 ⟨he, k1⟩
  rw [parse_low] at he
  simp only [resVal] at he
  subst he
  have K1 := Lib.hid k1
  clear k1
  go_wp2_with fail
  refine (parse_any highStr _).mono ?_
  rintro e w2 ⟨he, k2⟩
  rw [parse_hi] at he
  simp only [resVal] at he
  subst he
  have A2 := (Has.new' w1 #[.bool true, .int .u64 18446744073709551615] 24 rfl).keeps k2 (by simp)
  have K2 := Lib.hid ((K1.out.alloc _).trans k2)
  have l2 : w1.heap.size < w2.heap.size := A2.lt
  have B2 := Lib.hid A2
  clear k2 A2
  go_wp2_with fail
  refine (num_step (w2.heap.size + 1) 34 Num.new 53 _ (Has.new' (w2.alloc _) #[.bool false, .bool false, .bool false, .bool false, .int .u64 0, .bool false, .bool false, .int .i64 0] _ (by simp)) (by omega) (by decide)).mono ?_
  rintro e w3 ⟨he, g3, k3⟩
  rw [show Num.new.took 53 = true by decide, show (Num.new.after 53).e = 0 by decide] at he
  subst he
  have B3 := Lib.hid (((B2.out.alloc _).alloc _).keeps k3 (by simp; omega))
  have K3 := Lib.hid (((K2.out.alloc _).alloc _).trans' k3 (fun i hi => Or.inr (by have := K2.out.size; rw [List.mem_singleton.1 hi]; omega)))
  have G3 := Lib.hid g3
  have l3 : w2.heap.size + 1 < w3.heap.size := g3.lt
  clear g3 k3
  go_wp2_with fail
  refine (num_step (w2.heap.size + 1) 34 (Num.new.after 53) 44 _ G3.out (by omega) (by decide)).mono ?_
  rintro e w4 ⟨he, g4, k4⟩
  rw [show (Num.new.after 53).took 44 = false by decide, show ((Num.new.after 53).after 44).e = 0 by decide] at he
  subst he
  have B4 := B3.out.keeps k4 (by simp; omega)
  have b0 := B4.cell 0
  have b1 := B4.cell 1
  simp only [List.getElem?_cons_zero, List.getElem?_cons_succ] at b0 b1
  have K4 := Lib.hid (K3.out.trans' k4 (fun i hi => Or.inr (by have := K2.out.size; rw [List.mem_singleton.1 hi]; omega)))
  clear g4 k4 B4
  go_wp2_with fail
  refine (print_any true 18446744073709551615 (by omega) _ (pow_keeps HT.out K4.out)).mono ?_
  rintro e w5 ⟨he, k5⟩
  rw [low_print] at he
  subst he
  have K5 := Lib.hid (K4.out.trans k5)
  clear k5
  go_wp2_with fail
  go_ret
  exact ⟨rfl, K5.out⟩
end Go.Proofs.YtfgnjaelfjabmaaDoor
