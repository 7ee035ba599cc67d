/-
  jsonin.Parser: token within a container.
-/
import Derived.Test.YtbeocehadnhmnaaJsTok2
namespace Go.Proofs.Ytbeocehadnhmnaa
open Go.RowKit Go.Tru

set_option maxHeartbeats 8000000 in
set_option maxRecDepth 100000 in
theorem token_bad1 (base b : Nat) (mv : Value) (p : Js) (F : List Nat) (t : Tok) (w : World) (h : JsIn w base b mv p F) (hf : p.Fit) (hA : ¬ (t.kind = 58 ∧ p.next = 4)) (hB : ¬ (t.kind = 44 ∧ p.next = 5)) (hC : ¬ p.ends t = true) (hD : ¬ (t.kind = 115 ∧ (p.next = 3 ∨ p.next = 2))) (hE : p.next ≠ 0 ∧ p.next ≠ 1)
    (m : Bool) (r : List Bool) (hm : p.maps = m :: r) :
    Calls Try.prog 42 #[.pointer (some ⟨b, 0, none⟩), tokVal t] w fun e w' => TokLeft w base b mv F (p.fail 2) e w' := by
  obtain ⟨kind, text, neg, mag⟩ := t
  have hself := js_self h
  have hA' := h.keep0 (((Keeps.refl [] w).alloc (.cells #[.int .u8 kind, .string text, .bool neg, .int .u64 mag] 113)))
  obtain ⟨g, cap, rfl, gb, gl, gr, gm, gc, gne⟩ := js_top hA' hm
  have hr16 : r.length + 1 ≤ 16 := by have := hf.maps; have := hf.depth; rw [hm] at *; simp only [List.length_cons] at *; omega
  obtain ⟨g23, g24, g25, g26, hlt, hbm⟩ := js_facts hA'
  obtain ⟨f24, f25, f26⟩ := js_free hA'
  have hn := hf.next
  have hC' : ¬ (decide (kind = 93 ∧ m = false ∧ (p.next = 1 ∨ p.next = 5) ∨ kind = 125 ∧ m = true ∧ (p.next = 2 ∨ p.next = 5)) = true) := by
    intro hc
    apply hC
    unfold Js.ends
    rw [hm]
    exact hc
  obtain ⟨x, hx⟩ : ∃ x, p.next = x := ⟨_, rfl⟩
  rw [hx] at g25 hA hB hD hE hn hC'
  obtain ⟨n, hrn⟩ : ∃ n : Nat, r.length = n := ⟨_, rfl⟩
  have H := Lib.hid hA'
  rw [hrn] at g24 gr gc hr16 H hself hbm
  have hx' : x = 2 ∨ x = 3 ∨ x = 4 ∨ x = 5 ∨ x = 6 := by omega
  have hk' : kind = 58 ∨ kind = 44 ∨ kind = 93 ∨ kind = 125 ∨ kind = 115 ∨ ((kind == 58) = false ∧ (kind == 44) = false ∧ (kind == 93) = false ∧ (kind == 125) = false ∧ (kind == 115) = false) := by
    simp only [beq_eq_false_iff_ne]
    omega
  rw [hrn]
  clear h hA' hf hm hE hn hx hC hrn
  simp only [tokVal, Tok.cells]
  rcases hx' with rfl | rfl | rfl | rfl | rfl <;> rcases hk' with rfl | rfl | rfl | rfl | rfl | ⟨k1, k2, k3, k4, k5⟩ <;> cases m
  any_goals (solve | exact absurd ⟨rfl, rfl⟩ hA | exact absurd ⟨rfl, rfl⟩ hB | exact absurd ⟨rfl, Or.inl rfl⟩ hD | exact absurd ⟨rfl, Or.inr rfl⟩ hD | (refine absurd ?_ hC'; decide))
  all_goals
    clear hA hB hD hC'
    go_enter Try.func42, Try.ntmps42
    go_wp2_with fail
    go_ret2
    exact ⟨rfl, jsLeft_same (H.out.setE 2) ((((Keeps.refl _ _).alloc _)).setCell (Or.inl hself) _)⟩

end Go.Proofs.Ytbeocehadnhmnaa
