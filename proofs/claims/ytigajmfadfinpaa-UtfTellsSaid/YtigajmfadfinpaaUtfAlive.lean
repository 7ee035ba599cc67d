/-
  truchmanlaw4.alive returns true.
-/
import Derived.Test.YtigajmfadfinpaaUtfValid
namespace Go.Proofs.Ytigajmfadfinpaa
open Go.RowKit Go.Tru

theorem put_233 (w : World) : Calls Try.prog 9 #[.int .i64 233] w fun e w' => e = .returned (.tuple #[.string ⟨#[195, 169]⟩, .bool true]) ∧ w = w' :=
  (put_yes 233 w (by omega)).mono fun e w' h => ⟨h.1.trans (by rfl), h.2⟩

/-- a step of a Check that is a block by itself, and is known -/
theorem step_lit (b : Nat) (t : TypeId) (c c' : Chk) (x : Int) (y : Bool) (w : World) (h : Has w b c.cells t) (hx : 0 ≤ x ∧ x ≤ 255) (hf : c.Fit) (hc : c.step x = c') (hy : (!c'.bad) = y) :
    Calls Try.prog 6 #[.pointer (some ⟨b, 0, none⟩), .int .u8 x] w fun e w' => e = .returned (.bool y) ∧ Has w' b c'.cells t ∧ Keeps [b] w w' :=
  (check_step b [] [] t c x w (by simpa using h) 0 rfl hx.1 hx.2 hf).mono fun e w' ⟨he, h1, h2⟩ => ⟨by rw [he, hc, hy], by rw [hc] at h1; simpa using h1, h2⟩

theorem whole_lit (b : Nat) (t : TypeId) (c : Chk) (y : Bool) (w : World) (h : Has w b c.cells t) (hy : c.whole = y) :
    Calls Try.prog 8 #[.pointer (some ⟨b, 0, none⟩)] w fun e w' => e = .returned (.bool y) ∧ w = w' :=
  (check_whole b [] [] t c w (by simpa using h) 0 rfl).mono fun e w' ⟨he, h1⟩ => ⟨by rw [he, hy], h1⟩

theorem bad_lit (b : Nat) (t : TypeId) (c : Chk) (y : Bool) (w : World) (h : Has w b c.cells t) (hy : c.bad = y) :
    Calls Try.prog 7 #[.pointer (some ⟨b, 0, none⟩)] w fun e w' => e = .returned (.bool y) ∧ w = w' :=
  (check_bad b [] [] t c w (by simpa using h) 0 rfl).mono fun e w' ⟨he, h1⟩ => ⟨by rw [he, hy], h1⟩

theorem valid_lit (s : ByteArray) (y : Bool) (w : World) (hs : s.size ≤ maxLen) (hy : utf8 s.data.toList = y) :
    Calls Try.prog 11 #[.string s] w fun e w' => e = .returned (.bool y) ∧ Keeps [] w w' :=
  (valid_any s w hs).mono fun e w' ⟨he, h1⟩ => ⟨by rw [he, hy], h1⟩

set_option maxHeartbeats 400000 in
theorem alive_any (w : World) : Calls Try.prog 4 #[] w fun e w' => e = .returned (.bool true) ∧ Keeps [] w w' := by
  go_enter Try.func4, Try.ntmps4
  go_wp2_with fail
  refine (put_233 w).mono ?_
  rintro e w1 ⟨rfl, rfl⟩
  go_wp2_with fail
  refine (step_lit w.heap.size 25 Chk.zero ⟨1, 128, 191, false⟩ _ true _ (Has.new' w _ _ rfl) (by omega) Chk.fit_zero rfl rfl).mono ?_
  rintro e w1 ⟨rfl, h1, k1⟩
  have K1 := Lib.hid k1
  clear k1
  go_wp2_with fail
  refine (whole_lit w.heap.size _ _ false _ h1 rfl).mono ?_
  rintro e w2 ⟨rfl, rfl⟩
  go_wp2_with fail
  refine (step_lit w.heap.size 25 _ ⟨0, 128, 191, false⟩ _ true _ h1 (by omega) (by simp [Chk.Fit]) rfl rfl).mono ?_
  rintro e w2 ⟨rfl, h2, k2⟩
  have K2 := Lib.hid k2
  clear k2 h1
  go_wp2_with fail
  refine (whole_lit w.heap.size _ _ true _ h2 rfl).mono ?_
  rintro e w3 ⟨rfl, rfl⟩
  go_wp2_with fail
  refine (step_lit w.heap.size 25 _ ⟨0, 128, 191, true⟩ _ false _ h2 (by omega) (by simp [Chk.Fit]) rfl rfl).mono ?_
  rintro e w3 ⟨rfl, h3, k3⟩
  have K3 := Lib.hid k3
  clear k3 h2
  go_wp2_with fail
  refine (bad_lit w.heap.size _ _ true _ h3 rfl).mono ?_
  rintro e w4 ⟨rfl, rfl⟩
  go_wp2_with fail
  refine (valid_lit _ true _ (by decide) (by decide +kernel)).mono ?_
  rintro e w4 ⟨rfl, k4⟩
  have K4 := Lib.hid k4
  clear k4
  go_wp2_with fail
  refine (valid_lit _ false _ (by decide) (by decide +kernel)).mono ?_
  rintro e w5 ⟨rfl, k5⟩
  have K5 := Lib.hid k5
  clear k5
  go_wp2_with fail
  go_ret
  refine ⟨rfl, ?_⟩
  have k := ((K1.out.trans K2.out).trans K3.out)
  exact ((((Keeps.refl [] w).alloc _).trans' k (by intro i hi; right; simp at hi; omega)).trans K4.out).trans K5.out
end Go.Proofs.Ytigajmfadfinpaa
