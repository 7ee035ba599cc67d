/-
  truchmanlaw15.alive returns true.
-/
import Derived.Test.YtmcbdkhlbmhfeaaPackAll
import Derived.Test.YtmcbdkhlbmhfeaaEvMore
namespace Go.Proofs.Ytmcbdkhlbmhfeaa
open Go.RowKit Go.Tru

theorem packAlive : packAll [146, 1, 192] 4 = ([evArr 2, evInt false 1, evNull, evEnd], 0) := by kernel_rfl

set_option maxHeartbeats 1600000 in
set_option maxRecDepth 100000 in
theorem palive_any (w : World) : Calls Try.prog 7 #[] w fun e w' => e = .returned (.bool true) ∧ Keeps [] w w' := by
  go_enter Try.func7, Try.ntmps7
  go_wp2_with fail
  have hall := packAll_any ⟨#[146, 1, 192]⟩ 4 w (by decide)
  rw [show packAll (⟨#[146, 1, 192]⟩ : ByteArray).data.toList 4 = _ from packAlive] at hall
  refine hall.mono ?_
  clear hall
  rintro e w1 ⟨v, rfl, hown, k1⟩
  obtain ⟨o1, c1, rfl, hin⟩ := evsIn_of_owns hown
  obtain ⟨b1, f1, he1, q0, q1, q2, q3, q4⟩ := hin.get (k := 0) (by simp) (by simp)
  subst he1
  obtain ⟨b2, f2, he2, r0, r1, r2, r3, r4⟩ := hin.get (k := 1) (by simp) (by simp)
  simp only [Option.some.injEq, Addr.mk.injEq, and_true] at he2
  obtain ⟨rfl, rfl⟩ := he2
  obtain ⟨b2, f2, he2, s0, s1, s2, s3, s4⟩ := hin.get (k := 2) (by simp) (by simp)
  simp only [Option.some.injEq, Addr.mk.injEq, and_true] at he2
  obtain ⟨rfl, rfl⟩ := he2
  obtain ⟨b2, f2, he2, t0, t1, t2, t3, t4⟩ := hin.get (k := 3) (by simp) (by simp)
  simp only [Option.some.injEq, Addr.mk.injEq, and_true] at he2
  obtain ⟨rfl, rfl⟩ := he2
  have hr := hin.room
  have hm := hin.most
  unfold maxLen at hm
  simp only [List.length_cons, List.length_nil, List.getElem_cons_zero, List.getElem_cons_succ, evArr, evInt, evNull, evEnd, noText, Nat.zero_mul, Nat.add_zero, Nat.one_mul] at q0 q1 q2 q3 q4 r0 r1 r2 r3 r4 s0 s1 s2 s3 s4 t0 t1 t2 t3 t4 hr
  have K1 := Lib.hid k1
  clear hown hin k1
  simp only [List.length_cons, List.length_nil]
  go_wp2_with fail
  go_ret
  exact ⟨rfl, K1.out⟩
end Go.Proofs.Ytmcbdkhlbmhfeaa
