/-
  truchmanlaw9.alive returns true.
-/
import Derived.Test.YtdjdbcppabiknaaEvMore
import Derived.Test.YtdjdbcppabiknaaCheck
namespace Go.Proofs.Ytdjdbcppabiknaa
open Go.RowKit Go.Tru

def aText : Ev := evText ⟨#[97]⟩

set_option maxHeartbeats 400000 in
theorem alive_any (w : World) : Calls Try.prog 9 #[] w fun e w' => e = .returned (.bool true) ∧ Keeps [] w w' := by
  have hcl : Clear aText := Or.inr (Or.inr (Or.inr (Or.inl ⟨_, rfl⟩)))
  have HC := Lib.hid hcl
  clear hcl
  go_enter Try.func9, Try.ntmps9
  go_wp2_with fail
  refine (of_yes aText aText _ (clear_tidy HC.out)).mono ?_
  rintro e w1 ⟨rfl, k1⟩
  have K1 := Lib.hid k1
  clear k1
  go_wp2_with fail
  refine (plain_any aText HC.out w1).mono ?_
  rintro e w2 ⟨rfl, k2⟩
  have K2 := Lib.hid k2
  clear k2
  have hv : aText.val = .agg #[.int .i64 3, .bool false, .int .u64 0, .string ⟨#[97]⟩, .int .i64 0] := rfl
  have hp : aText.part = .iface 53 (.string ⟨#[97]⟩) := rfl
  rw [hv, hp]
  clear hv hp
  go_wp2_with fail
  refine (mustWord_yes ⟨#[97]⟩ _).mono ?_
  rintro e w3 ⟨rfl, rfl⟩
  go_wp2_with fail
  refine (size_any aText HC.out (by decide) _).mono ?_
  rintro e w3 ⟨rfl, k3⟩
  have K3 := Lib.hid k3
  clear k3
  have hs : aText.size = 2 := rfl
  rw [hs]
  go_wp2_with fail
  refine (check_any _ 3 3 [evArr (-1), evNull, evEnd] _ (evsIn_has (Has.new' w3 _ _ rfl) rfl (by decide)) (by omega)).mono ?_
  rintro e w4 ⟨rfl, k4⟩
  have K4 := Lib.hid k4
  clear k4
  have hk : check [evArr (-1), evNull, evEnd] = 0 := by decide
  rw [hk]
  go_wp2_with fail
  go_ret
  exact ⟨rfl, ((((K1.out.trans K2.out).alloc _).trans K3.out).alloc _).trans K4.out⟩
end Go.Proofs.Ytdjdbcppabiknaa
