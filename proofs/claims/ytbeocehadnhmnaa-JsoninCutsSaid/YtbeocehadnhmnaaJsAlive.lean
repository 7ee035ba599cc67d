/-
  truchmanlaw11.alive returns true.
-/
import Derived.Test.YtbeocehadnhmnaaJsAll
import Derived.Test.YtbeocehadnhmnaaEvMore
namespace Go.Proofs.Ytbeocehadnhmnaa
open Go.RowKit Go.Tru

theorem jsAlive1 : jsAll [123, 34, 97, 34, 58, 110, 117, 108, 108, 125] 4 = ([evMap (-1), evText ⟨#[97]⟩, evNull, evEnd], 0) := by kernel_rfl
theorem jsAlive2 : jsAll [91, 91, 49, 93, 93] 1 = ([evArr (-1)], 4) := by kernel_rfl

set_option maxHeartbeats 1600000 in
set_option maxRecDepth 100000 in
theorem jalive_any (w : World) : Calls Try.prog 9 #[] w fun e w' => e = .returned (.bool true) ∧ Keeps [] w w' := by
  have hall := jsAll_any ⟨#[123, 34, 97, 34, 58, 110, 117, 108, 108, 125]⟩ 4 w (by decide)
  rw [show jsAll (⟨#[123, 34, 97, 34, 58, 110, 117, 108, 108, 125]⟩ : ByteArray).data.toList 4 = _ from jsAlive1] at hall
  have HALL := Lib.hid hall
  have hall2 := fun W => jsAll_any ⟨#[91, 91, 49, 93, 93]⟩ 1 W (by decide)
  rw [show jsAll (⟨#[91, 91, 49, 93, 93]⟩ : ByteArray).data.toList 1 = _ from jsAlive2] at hall2
  have HALL2 := Lib.hid hall2
  clear hall hall2
  go_enter Try.func9, Try.ntmps9
  go_wp2_with fail
  refine HALL.out.mono ?_
  rintro e w1 ⟨v, rfl, hown, k1⟩
  obtain ⟨o1, c1, rfl, hin1⟩ := evsIn_of_owns hown
  have HIN := Lib.hid hin1
  have K1 := Lib.hid k1
  clear hown hin1 k1
  go_wp2_with fail
  refine (HALL2.out _).mono ?_
  rintro e w2 ⟨v2, rfl, hown2, k2⟩
  obtain ⟨o2, c2, rfl⟩ := hown2.shape
  have hin := HIN.out.keeps k2
  have K2 := Lib.hid (K1.out.trans k2)
  obtain ⟨b1, f1, he1, q0, q1, q2, q3, q4⟩ := hin.get (k := 0) (by simp) (by simp)
  subst he1
  obtain ⟨b2, f2, he2, r0, r1, r2, r3, r4⟩ := hin.get (k := 1) (by simp) (by simp)
  simp only [Option.some.injEq, Addr.mk.injEq, and_true] at he2
  obtain ⟨rfl, rfl⟩ := he2
  obtain ⟨b2, f2, he2, t0, t1, t2, t3, t4⟩ := hin.get (k := 3) (by simp) (by simp)
  simp only [Option.some.injEq, Addr.mk.injEq, and_true] at he2
  obtain ⟨rfl, rfl⟩ := he2
  have hr := hin.room
  have hm := hin.most
  unfold maxLen at hm
  simp only [List.length_cons, List.length_nil, List.getElem_cons_zero, List.getElem_cons_succ, evMap, evText, evNull, evEnd, noText, Nat.zero_mul, Nat.add_zero, Nat.one_mul] at q0 q1 q2 q3 q4 r0 r1 r2 r3 r4 t0 t1 t2 t3 t4 hr
  clear hown2 hin k2
  simp only [List.length_cons, List.length_nil]
  go_wp2_with fail
  go_ret
  exact ⟨rfl, K2.out⟩
end Go.Proofs.Ytbeocehadnhmnaa
