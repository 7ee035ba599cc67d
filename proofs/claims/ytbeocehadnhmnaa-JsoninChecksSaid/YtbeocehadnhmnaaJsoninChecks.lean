/-
  JsoninChecks' walk.
-/
import Derived.Test.YtbeocehadnhmnaaJsAlive
import Derived.Test.YtbeocehadnhmnaaJsCkPlain
namespace Go.Proofs.Ytbeocehadnhmnaa
open Go.RowKit Go.Tru

set_option maxHeartbeats 1600000 in
set_option maxRecDepth 100000 in
theorem jsoninChecks_walk (s : ByteArray) (d : Int) (w : World) (hs : s.size ≤ maxLen) (_hd : -9223372036854775808 ≤ d ∧ d ≤ 9223372036854775807) :
    Calls Try.prog 8 #[.string s, .int .i64 d] w fun r w' => r = .returned (.bool true) ∧ Below w.heap.size w w' := by
  refine Calls.mono (R := fun r w' => r = .returned (.bool true) ∧ Keeps [] w w') ?_ (fun r w' h => ⟨h.1, h.2.all⟩)
  unfold maxLen at hs
  by_cases hlong : 250 < (s.size : Int) ∨ ¬ 250 < (s.size : Int) ∧ d < 1 ∨ ¬ 250 < (s.size : Int) ∧ ¬ d < 1 ∧ 16 < d
  · rcases hlong with h | ⟨h, h'⟩ | ⟨h, h', h''⟩
    all_goals
      go_enter Try.func8, Try.ntmps8
      go_wp2_with fail
      refine (jalive_any w).mono ?_
      rintro e w1 ⟨rfl, k1⟩
      have K1 := Lib.hid k1
      clear k1
      go_wp2_with fail
      go_ret
      exact ⟨rfl, K1.out⟩
  have h1 : ¬ 250 < (s.size : Int) := by omega
  have h2 : ¬ d < 1 := by omega
  have h3 : ¬ 16 < d := by omega
  clear hlong
  go_enter Try.func8, Try.ntmps8
  go_wp2_with fail
  refine (jalive_any w).mono ?_
  rintro e w1 ⟨rfl, k1⟩
  have K1 := Lib.hid k1
  clear k1
  go_wp2_with fail
  refine (jsAll_any s d w1 (by omega)).mono ?_
  rintro e w2 ⟨v2, rfl, hown2, k2⟩
  have hsaid := jsAll_said s.data.toList (d := d) (by omega)
  have hlen := jsAll_len s.data.toList d
  have hll : s.data.toList.length = s.size := by rw [Array.length_toList]; rfl
  rw [hll] at hlen
  generalize jsAll s.data.toList d = tot at hown2 hsaid hlen
  obtain ⟨o2, c2, rfl, hin2⟩ := evsIn_of_owns hown2
  obtain ⟨l, e⟩ := tot
  simp only [] at hin2 hsaid hlen ⊢
  have HIN := Lib.hid hin2
  have K2 := Lib.hid (K1.out.trans k2)
  have HCK := Lib.hid (check_any o2 l.length c2 l w2 hin2 (by omega))
  obtain ⟨hs0, hs1⟩ := hsaid
  clear hown2 hin2 k2 hll
  by_cases he : e = 0
  · have hc := hs0 he
    have he' : (e == 0) = true := by simp [he]
    clear hs0 hs1 he
    go_wp2_with fail
    refine HCK.out.mono ?_
    rintro e w3 ⟨rfl, k3⟩
    have K3 := Lib.hid (K2.out.trans k3)
    rw [hc]
    clear k3
    go_wp2_with fail
    go_ret
    exact ⟨rfl, K3.out⟩
  · have he' : (e == 0) = false := by simp [he]
    clear hs0 he
    go_wp2_with fail
    refine HCK.out.mono ?_
    rintro e w3 ⟨rfl, k3⟩
    have K3 := Lib.hid (K2.out.trans k3)
    clear k3
    rcases hs1 with hc | hc
    all_goals
      rw [hc]
      go_wp2_with fail
      go_ret
      exact ⟨rfl, K3.out⟩
end Go.Proofs.Ytbeocehadnhmnaa
