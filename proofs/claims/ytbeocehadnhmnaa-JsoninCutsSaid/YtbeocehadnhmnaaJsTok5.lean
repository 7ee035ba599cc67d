/-
  jsonin.Parser: token: values within a container.
-/
import Derived.Test.YtbeocehadnhmnaaJsTok2
namespace Go.Proofs.Ytbeocehadnhmnaa
open Go.RowKit Go.Tru

set_option maxHeartbeats 4000000 in
set_option maxRecDepth 100000 in
theorem token_go1 (base b : Nat) (mv : Value) (p : Js) (F : List Nat) (t : Tok) (w : World) (h : JsIn w base b mv p F) (hf : p.Fit) (hbase : base ≤ w.heap.size) (hE : p.next = 0 ∨ p.next = 1) (hC : ¬ p.ends t = true) (m : Bool) (r : List Bool) (hm : p.maps = m :: r) :
    Calls Try.prog 42 #[.pointer (some ⟨b, 0, none⟩), tokVal t] w fun e w' => TokLeft w base b mv F (p.value t) e w' := by
  have hval := fun W hW hb => value_any base b mv p F t W hW hf hb
  obtain ⟨q, p', hr⟩ : ∃ q p', p.value t = (q, p') := ⟨_, _, rfl⟩
  rw [hr] at hval ⊢
  obtain ⟨kind, text, neg, mag⟩ := t
  have hself := js_self h
  have hA' := h.keep0 (((Keeps.refl [] w).alloc (.cells #[.int .u8 kind, .string text, .bool neg, .int .u64 mag] 113)))
  obtain ⟨g, cap, rfl, gb, gl, gr, gm, gc, gne⟩ := js_top hA' hm
  have hr16 : r.length + 1 ≤ 16 := by have := hf.maps; have := hf.depth; rw [hm] at *; simp only [List.length_cons] at *; omega
  obtain ⟨g23, g24, g25, g26, hlt, hbm⟩ := js_facts hA'
  obtain ⟨f24, f25, f26⟩ := js_free hA'
  have hC' : ¬ (decide (kind = 93 ∧ m = false ∧ (p.next = 1 ∨ p.next = 5) ∨ kind = 125 ∧ m = true ∧ (p.next = 2 ∨ p.next = 5)) = true) := by
    intro hc
    apply hC
    unfold Js.ends
    rw [hm]
    exact hc
  obtain ⟨x, hx⟩ : ∃ x, p.next = x := ⟨_, rfl⟩
  rw [hx] at g25 hE hC'
  have H := Lib.hid hA'
  have hk' : kind = 58 ∨ kind = 44 ∨ kind = 93 ∨ kind = 125 ∨ kind = 115 ∨ ((kind == 58) = false ∧ (kind == 44) = false ∧ (kind == 93) = false ∧ (kind == 125) = false ∧ (kind == 115) = false) := by
    simp only [beq_eq_false_iff_ne]
    omega
  obtain ⟨n, hrn⟩ : ∃ n : Nat, r.length = n := ⟨_, rfl⟩
  rw [hrn] at g24 gr gc hr16 H hself hbm hval
  rw [hrn]
  clear h hA' hf hm hx hr hrn hC
  simp only [tokVal, Tok.cells] at hval ⊢
  rcases hE with rfl | rfl <;> rcases hk' with rfl | rfl | rfl | rfl | rfl | ⟨k1, k2, k3, k4, k5⟩ <;> cases m
  any_goals (solve | (refine absurd ?_ hC'; decide))
  all_goals
    clear hC'
    go_enter Try.func42, Try.ntmps42
    go_wp2_with fail
    refine (hval _ H.out (by simp; omega)).mono ?_
    rintro e w1 ⟨rfl, h1⟩
    have H1 := Lib.hid h1
    clear h1
    cases q <;> (
      simp only [optVal]
      go_wp2_with fail
      go_ret2
      exact ⟨rfl, JsLeft.trans ((Keeps.refl _ w).alloc _) (fun _ hi => Or.inl hi) H1.out⟩)

end Go.Proofs.Ytbeocehadnhmnaa
