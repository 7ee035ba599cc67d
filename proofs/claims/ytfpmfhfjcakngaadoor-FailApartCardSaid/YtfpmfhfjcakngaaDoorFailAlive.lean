/-
  The laws' alive.
-/
import Derived.Test.YtfpmfhfjcakngaaDoorFailError
namespace Go.Proofs.YtfpmfhfjcakngaaDoor
open Go.RowKit Go.Tru

theorem words_deep : wordsOf 4 3 = ⟨#[100, 101, 101, 112, 32, 97, 116, 32, 51]⟩ := by decide +kernel
theorem name_full : nameOf 15 = [102, 117, 108, 108] := by decide +kernel
theorem inv_error (v : Value) (w : World) : (invoke (.fn (.method "Error") #[]) #[.iface 38 v]).run Tryd.prog w = .ok (.enter 40 #[v]) w := by kernel_rfl

set_option maxHeartbeats 2000000 in
set_option maxRecDepth 100000 in
theorem alive_any (w : World) (htab : PowTab w) :
    Calls Tryd.prog 8 #[] w fun e w' => e = .returned (.bool true) ∧ Keeps [] w w' := by
  have HT := Lib.hid htab
  have HI := inv_error
  clear htab
  go_enter Tryd.func8, Tryd.ntmps8
  go_wp2_with fail
  refine (new_any 4 3 (by decide) w).mono ?_
  rintro e w1 ⟨rfl, rfl⟩
  have B1 := Lib.hid (Has.new' w #[.int .i64 4, .int .i64 3] 41 rfl)
  have K1 := Lib.hid ((Keeps.refl [] w).alloc (.cells #[.int .i64 4, .int .i64 3] 41))
  go_wp2_with fail
  refine (add_any 2 3 (by decide) (by decide) _).mono ?_
  rintro e w2 ⟨he, rfl⟩
  rw [show addOk 2 3 = true by decide] at he
  subst he
  go_wp2_with fail
  refine (new_ok 5 _).mono ?_
  rintro e w2 ⟨rfl, rfl⟩
  go_wp2_with fail
  refine (error_small w.heap.size 4 (by decide) 3 (by decide) _ (pow_keeps HT.out K1.out) B1.out).mono ?_
  rintro e w2 ⟨he, k2⟩
  rw [words_deep] at he
  subst he
  have B2 := Lib.hid (B1.out.keeps k2 (by simp))
  have K2 := Lib.hid (K1.out.trans k2)
  clear k2
  go_wp2_with fail
  refine (errno_any w.heap.size 4 3 _ B2.out).mono ?_
  rintro e w3 ⟨rfl, rfl⟩
  go_wp2_with fail
  refine (errno_nil _).mono ?_
  rintro e w3 ⟨rfl, rfl⟩
  go_wp2_with fail
  refine (name_any 15 (by decide) _ (pow_keeps HT.out K2.out)).mono ?_
  rintro e w3 ⟨he, k3⟩
  rw [name_full] at he
  subst he
  have K3 := Lib.hid (K2.out.trans k3)
  clear k3
  go_wp2_with fail
  go_ret
  exact ⟨rfl, K3.out⟩
end Go.Proofs.YtfpmfhfjcakngaaDoor
