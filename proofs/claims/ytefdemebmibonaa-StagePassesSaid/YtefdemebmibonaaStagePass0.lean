/-
  stage.Stage's Step, where nothing is held and nothing must be: nothing turns.
-/
import Derived.Test.YtefdemebmibonaaStageWays
namespace Go.Proofs.Ytefdemebmibonaa
open Go.RowKit Go.Tru

set_option maxHeartbeats 800000 in
set_option maxRecDepth 100000 in
theorem step_pass0 (s : St) (p : Ev) (hp : Clear p) (w : World) (base b : Nat) (hv ov : Value) (h : StIn w base b hv ov s) (he : s.e = 0) (ho : s.open_ = []) (hl : p.loose = false) (hf : base ≤ w.heap.size) :
    Calls Try.prog 13 #[.pointer (some ⟨b, 0, none⟩), p.part] w fun r w' => ∃ v, r = .returned (.tuple #[v, .int .i64 0]) ∧ OwnsAny w' base v [p] ∧ Keeps [] w w' := by
  have hopn := h.opn
  rw [ho] at hopn
  obtain ⟨oo, oc, rfl⟩ := hopn.shape
  clear hopn ho
  obtain ⟨m, n, tb, tc, hcount⟩ := part_ways hp
  have hpl := fun W => plain_any p hp W
  obtain ⟨pv, hpv⟩ : ∃ pv, p.part = pv := ⟨_, rfl⟩
  have hform := part_form p
  rw [hpv] at hpl tb tc hform ⊢
  have hne : (s.e != 0) = false := by simpa using he
  obtain ⟨g0, g1, g2, g3, g4⟩ := st_facts h.blk
  have H := Lib.hid h
  have HPL := Lib.hid hpl
  have HPV := Lib.hid hpv
  have HE := Lib.hid he
  have HF := Lib.hid hf
  clear h hpl hpv he hf
  have hcase : isOpen p = false ∨ isOpen p = true ∧ 0 ≤ n := by
    cases hio : isOpen p with
    | false => exact Or.inl rfl
    | true =>
      refine Or.inr ⟨rfl, ?_⟩
      have h1 := hcount hio
      unfold Ev.loose at hl
      simp only [isOpen, decide_eq_true_eq] at hio
      simp only [decide_eq_false_iff_not, not_and] at hl
      have := hl hio
      omega
  clear hl hcount
  rcases hcase with hio | ⟨hio, hn⟩
  all_goals
    rw [hio] at tb
    clear hio
    rcases hform with rfl | ⟨T, v, rfl⟩
    all_goals
      go_enter Try.func13, Try.ntmps13
      go_wp2_with fail
      refine (HPL.out _).mono ?_
      rintro e w1 ⟨rfl, k1⟩
      have HS1 := Lib.hid (H.out.keep0 k1)
      have K1 := Lib.hid k1
      have hz1 := k1.size
      obtain ⟨g0, g1, g2, g3, g4⟩ := st_facts HS1.out.blk
      obtain ⟨f0, f1, f2, f3, f4⟩ := st_free HS1.out.blk
      have hbl1 := HS1.out.base_lt
      clear k1
      simp only [Ev.val, Ev.cells]
      go_wp2_with fail
      go_ret2
      exact ⟨_, rfl, lit_part HPV.out (by simp) (by have := HF.out; omega), ((K1.out.alloc _).alloc _).alloc _⟩

end Go.Proofs.Ytefdemebmibonaa
