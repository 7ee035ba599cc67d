/-
  EventCuts' walk.
-/
import Derived.Test.YtdjdbcppabiknaaEvAlive
import Derived.Test.YtdjdbcppabiknaaCheckPlain
import Derived.Test.YtdjdbcppabiknaaArith
namespace Go.Proofs.Ytdjdbcppabiknaa
open Go.RowKit Go.Tru

set_option maxHeartbeats 400000 in
theorem eventCuts_walk (o : Option Addr) (n c : Nat) (es : List Ev) (k : Int) (w : World) (h : EvsIn w o n c es) (_hf : ∀ e ∈ es, e.Fit) (hk : -9223372036854775808 ≤ k ∧ k ≤ 9223372036854775807) :
    Calls Try.prog 5 #[.slice o n c, .int .i64 k] w fun e w' => e = .returned (.bool true) ∧ Below w.heap.size w w' := by
  refine Calls.mono (R := fun e w' => e = .returned (.bool true) ∧ Keeps [] w w') ?_ (fun e w' h => ⟨h.1, h.2.all⟩)
  have m1 : n ≤ 9223372036854775807 := by have := h.room; have := h.most; unfold maxLen at *; omega
  have hr := h.room
  have hcm := h.most
  unfold maxLen at hcm
  obtain ⟨hk1, hk2⟩ := hk
  have hl := h.len
  have H := Lib.hid h
  have L := Lib.hid hl
  clear h hl
  by_cases hn : n < 1 ∨ 60 < n
  · rcases hn with hn | hn
    all_goals
      go_enter Try.func5, Try.ntmps5
      go_wp2_with fail
      refine (alive_any w).mono ?_
      rintro e w1 ⟨rfl, k1⟩
      have K1 := Lib.hid k1
      clear k1
      go_wp2_with fail
      go_ret
      exact ⟨rfl, K1.out⟩
  · have hn1 : 1 ≤ n := by omega
    have hn2 : n ≤ 60 := by omega
    clear hn
    go_enter Try.func5, Try.ntmps5
    go_wp2_with fail
    refine (check_any o n c es w H.out (by omega)).mono ?_
    rintro e w1 ⟨rfl, k1⟩
    have K1 := Lib.hid k1
    clear k1
    by_cases hc : check es = 0
    · have HC := Lib.hid hc
      rw [hc]
      clear hc
      go_wp2_with fail
      refine (alive_any w1).mono ?_
      rintro e w2 ⟨rfl, k2⟩
      have K2 := Lib.hid (K1.out.trans k2)
      clear k2
      obtain ⟨hr1, hr2, j, hj, hjz⟩ := mod_facts k (z := n) (by omega)
      have hd0 : ((n : Int) == 0) = false := beq_eq_false_iff_ne.2 (by omega)
      have hjc : j ≤ c := by omega
      rcases H.out.at_ with h0 | ⟨b, off, rfl, _, _⟩
      · omega
      · go_wp2_with fail
        refine (check_any _ j c (es.take j) _ ((H.out.keeps K2.out).take (by omega)) (by omega)).mono ?_
        rintro e w3 ⟨rfl, k3⟩
        have K3 := Lib.hid k3
        clear k3
        have hct : check (es.take j) = 3 := check_take HC.out (by rw [L.out]; exact hjz)
        rw [hct]
        clear hct
        go_wp2_with fail
        go_ret
        exact ⟨rfl, K2.out.trans K3.out⟩
    · have hne : (check es != 0) = true := by simpa using hc
      go_wp2_with fail
      refine (alive_any w1).mono ?_
      rintro e w2 ⟨rfl, k2⟩
      have K2 := Lib.hid (K1.out.trans k2)
      clear k2
      go_wp2_with fail
      go_ret
      exact ⟨rfl, K2.out⟩
end Go.Proofs.Ytdjdbcppabiknaa
