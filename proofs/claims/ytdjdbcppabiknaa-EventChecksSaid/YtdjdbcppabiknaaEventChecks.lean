/-
  EventChecks' walk.
-/
import Derived.Test.YtdjdbcppabiknaaEvAlive
import Derived.Test.YtdjdbcppabiknaaEvLent
import Derived.Test.YtdjdbcppabiknaaRefCheck
namespace Go.Proofs.Ytdjdbcppabiknaa
open Go.RowKit Go.Tru

set_option maxHeartbeats 400000 in
theorem eventChecks_walk (o : Option Addr) (n c : Nat) (es : List Ev) (w : World) (h : EvsIn w o n c es) (_hf : ∀ e ∈ es, e.Fit) :
    Calls Try.prog 3 #[.slice o n c] w fun e w' => e = .returned (.bool true) ∧ Below w.heap.size w w' := by
  refine Calls.mono (R := fun e w' => e = .returned (.bool true) ∧ Keeps [] w w') ?_ (fun e w' h => ⟨h.1, h.2.all⟩)
  have m1 : n ≤ 9223372036854775807 := by have := h.room; have := h.most; unfold maxLen at *; omega
  have hr := h.room
  have hcm := h.most
  unfold maxLen at hcm
  have H := Lib.hid h
  clear h
  by_cases hn : 100 < n
  · go_enter Try.func3, Try.ntmps3
    go_wp2_with fail
    refine (alive_any w).mono ?_
    rintro e w1 ⟨rfl, k1⟩
    have K1 := Lib.hid k1
    clear k1
    go_wp2_with fail
    go_ret
    exact ⟨rfl, K1.out⟩
  · have hn2 : n ≤ 100 := by omega
    clear hn
    go_enter Try.func3, Try.ntmps3
    go_wp2_with fail
    refine (alive_any w).mono ?_
    rintro e w1 ⟨rfl, k1⟩
    have K1 := Lib.hid k1
    clear k1
    go_wp2_with fail
    refine (lentEvs_any o n c es w1 (H.out.keeps K1.out) (by omega)).mono ?_
    rintro e w2 ⟨g, cap, rfl, hcap, hin, k2⟩
    have K2 := Lib.hid (K1.out.trans k2)
    have HI := Lib.hid hin
    clear k2 hin
    go_wp2_with fail
    refine (check_any _ n cap es w2 (lent_take HI.out) (by omega)).mono ?_
    rintro e w3 ⟨rfl, k3⟩
    have K3 := Lib.hid (K2.out.trans k3)
    have HI3 := Lib.hid (HI.out.keeps k3)
    clear k3
    go_wp2_with fail
    refine (refCheck_any o n c es w3 (H.out.keeps K3.out) (by omega)).mono ?_
    rintro e w4 ⟨rfl, k4⟩
    have K4 := Lib.hid (K3.out.trans k4)
    have HI4 := Lib.hid (HI3.out.keeps k4)
    clear k4
    generalize check es = R
    have hRR : (R == R) = true := beq_self_eq_true R
    go_wp2_with fail
    refine (staysEvs_yes o n c g cap es w4 (H.out.keeps K4.out) HI4.out (by omega)).mono ?_
    rintro e w5 ⟨rfl, k5⟩
    have K5 := Lib.hid (K4.out.trans k5)
    clear k5
    go_wp2_with fail
    go_ret
    exact ⟨rfl, K5.out⟩
end Go.Proofs.Ytdjdbcppabiknaa
