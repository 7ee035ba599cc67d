/-
  truchmanbook.SameEvs: two lists that are alike.
-/
import Derived.Test.YtefdemebmibonaaEvMore
import Derived.Deep.QuietTactic
import Derived.BigQuiet
namespace Go.Proofs.Ytefdemebmibonaa
open Go.RowKit Go.Tru

set_option maxHeartbeats 800000 in
theorem sameEvs_yes (o1 o2 : Option Addr) (n c1 c2 : Nat) (xs : List Ev) (w : World) (h1 : EvsIn w o1 n c1 xs) (h2 : EvsIn w o2 n c2 xs) :
    Calls Try.prog 19 #[.slice o1 n c1, .slice o2 n c2] w fun e w' => e = .returned (.bool true) ∧ Keeps [] w w' := by
  have hl1 := h1.len
  have m1 : n ≤ 9223372036854775807 := by have := h1.room; have := h1.most; unfold maxLen at *; omega
  have H1 := Lib.hid h1
  have H2 := Lib.hid h2
  have L1 := Lib.hid hl1
  clear h1 h2 hl1
  go_enter Try.func19, Try.ntmps19
  go_wp2_with fail
  go_loopw [5] (fun i wr => ∃ k : Nat, k ≤ n ∧ i = .int .i64 k ∧ Keeps [] w wr) (fun i _ => n - (intOf i).toNat)
  case atStart => exact ⟨0, Nat.zero_le _, rfl, Keeps.refl _ _⟩
  case round =>
    obtain ⟨k, hk, rfl, hK⟩ := hrel
    by_cases hlt : k < n
    · have hx : k < xs.length := by rw [L1.out]; exact hlt
      obtain ⟨b1, f1, rfl, g0, g1, g2, g3, g4⟩ := (H1.out.keeps hK).get hlt hx
      obtain ⟨b2, f2, rfl, q0, q1, q2, q3, q4⟩ := (H2.out.keeps hK).get hlt hx
      have hi : (k : Int) < (n : Int) := by omega
      have HK := Lib.hid hK
      have heq : ∀ W, (binOp .eql 30 (.agg #[.int .i64 xs[k].kind, .bool xs[k].yes, .int .u64 xs[k].mag, .string xs[k].text, .int .i64 xs[k].count]) (.agg #[.int .i64 xs[k].kind, .bool xs[k].yes, .int .u64 xs[k].mag, .string xs[k].text, .int .i64 xs[k].count])).run Try.prog W = .ok (.bool true) W := fun W => by
        have := eql_ev xs[k] xs[k] W
        rw [show xs[k].same xs[k] = true from same_iff.2 rfl] at this
        exact this
      clear hK
      go_wp2_with fail
      go_quiet (fail)
      go_wp2_with fail
      go_roundw
      case rel => exact ⟨k + 1, by omega, by go_num, HK.out.drewN _⟩
      case measure => simp [intOf]; omega
    · obtain rfl : k = n := by omega
      have HK := Lib.hid hK
      clear hK
      go_wp2_with fail
      go_ret
      exact ⟨rfl, HK.out⟩

end Go.Proofs.Ytefdemebmibonaa
