/-
  jsonin.Parser: value and token, all cases.
-/
import Derived.Test.YtbeocehadnhmnaaJsTok
namespace Go.Proofs.Ytbeocehadnhmnaa
open Go.RowKit Go.Tru

set_option maxHeartbeats 2000000 in
set_option maxRecDepth 100000 in
theorem value_none (base b : Nat) (mv : Value) (p : Js) (F : List Nat) (t : Tok) (w : World) (h : JsIn w base b mv p F) (hk : ¬ (t.kind = 91 ∨ t.kind = 123) ∧ t.kind ≠ 115 ∧ t.kind ≠ 110 ∧ ¬ (t.kind = 116 ∨ t.kind = 102) ∧ t.kind ≠ 48) :
    Calls Try.prog 53 #[.pointer (some ⟨b, 0, none⟩), tokVal t] w fun e w' => TokLeft w base b mv F (p.value t) e w' := by
  have hv : p.value t = p.fail 2 := by unfold Js.value; rw [if_neg hk.1, if_neg hk.2.1, if_neg hk.2.2.1, if_neg hk.2.2.2.1, if_neg hk.2.2.2.2]
  rw [hv]
  obtain ⟨kind, text, neg, mag⟩ := t
  have hself := js_self h
  have hA := h.keep0 (((Keeps.refl [] w).alloc (.cells #[.int .u8 kind, .string text, .bool neg, .int .u64 mag] 113)))
  obtain ⟨g23, g24, g25, g26, hlt, hbm⟩ := js_facts hA
  obtain ⟨f24, f25, f26⟩ := js_free hA
  have H := Lib.hid hA
  simp only at hk
  have k1 : (kind == 91) = false := beq_eq_false_iff_ne.2 (by omega)
  have k2 : (kind == 123) = false := beq_eq_false_iff_ne.2 (by omega)
  have k3 : (kind == 115) = false := beq_eq_false_iff_ne.2 (by omega)
  have k4 : (kind == 110) = false := beq_eq_false_iff_ne.2 (by omega)
  have k5 : (kind == 116) = false := beq_eq_false_iff_ne.2 (by omega)
  have k6 : (kind == 102) = false := beq_eq_false_iff_ne.2 (by omega)
  have k7 : (kind == 48) = false := beq_eq_false_iff_ne.2 (by omega)
  clear h hv hA hk
  simp only [tokVal, Tok.cells]
  go_enter Try.func53, Try.ntmps53
  go_wp2_with fail
  go_ret2
  exact ⟨rfl, jsLeft_same (H.out.setE 2) ((((Keeps.refl _ _).alloc _)).setCell (Or.inl hself) _)⟩

theorem value_any (base b : Nat) (mv : Value) (p : Js) (F : List Nat) (t : Tok) (w : World) (h : JsIn w base b mv p F) (hf : p.Fit) (hbase : base ≤ w.heap.size) :
    Calls Try.prog 53 #[.pointer (some ⟨b, 0, none⟩), tokVal t] w fun e w' => TokLeft w base b mv F (p.value t) e w' := by
  by_cases h1 : t.kind = 91 ∨ t.kind = 123
  · by_cases h2 : (p.maps.length : Int) = p.depth
    · exact value_deep base b mv p F t w h h1 h2
    · exact value_open base b mv p F t w h hf hbase h1 h2
  · by_cases h2 : t.kind = 115 ∨ t.kind = 110 ∨ t.kind = 116 ∨ t.kind = 102 ∨ t.kind = 48
    · exact value_plain base b mv p F t w h h2
    · exact value_none base b mv p F t w h ⟨h1, by omega, by omega, by omega, by omega⟩

/-- the innermost open container -/
theorem js_top {w : World} {base b : Nat} {mv : Value} {p : Js} {F : List Nat} {m : Bool} {r : List Bool} (h : JsIn w base b mv p F) (hm : p.maps = m :: r) :
    ∃ g cap, mv = .slice (some ⟨g, 0, none⟩) (r.length + 1) cap ∧ base ≤ g ∧ g < w.heap.size ∧ r.length + 1 ≤ cap ∧ cap ≤ maxLen ∧ w.cell? ⟨g, r.length, none⟩ = some (.bool m) ∧ g ≠ b := by
  have hmaps := h.maps
  rw [hm] at hmaps
  obtain ⟨g, cap, rfl, h1, h2, h3, h4, h5⟩ := hmaps.some_
  refine ⟨g, cap, rfl, h1, h2, h3, h4, h5, fun he => ?_⟩
  exact (js_facts h).2.2.2.2.2 (mem_blks.2 (by rw [he]; rfl))

set_option maxHeartbeats 4000000 in
set_option maxRecDepth 100000 in
theorem token_bad0 (base b : Nat) (mv : Value) (p : Js) (F : List Nat) (t : Tok) (w : World) (h : JsIn w base b mv p F) (hf : p.Fit) (hA : ¬ (t.kind = 58 ∧ p.next = 4)) (hB : ¬ (t.kind = 44 ∧ p.next = 5)) (hD : ¬ (t.kind = 115 ∧ (p.next = 3 ∨ p.next = 2))) (hE : p.next ≠ 0 ∧ p.next ≠ 1)
    (hm : p.maps = []) :
    Calls Try.prog 42 #[.pointer (some ⟨b, 0, none⟩), tokVal t] w fun e w' => TokLeft w base b mv F (p.fail 2) e w' := by
  obtain ⟨kind, text, neg, mag⟩ := t
  have hself := js_self h
  obtain ⟨o, c, hmv⟩ := h.maps.shape
  rw [hm] at hmv
  subst hmv
  have hA' := h.keep0 (((Keeps.refl [] w).alloc (.cells #[.int .u8 kind, .string text, .bool neg, .int .u64 mag] 113)))
  obtain ⟨g23, g24, g25, g26, hlt, hbm⟩ := js_facts hA'
  obtain ⟨f24, f25, f26⟩ := js_free hA'
  have hn := hf.next
  obtain ⟨x, hx⟩ : ∃ x, p.next = x := ⟨_, rfl⟩
  rw [hx] at g25 hA hB hD hE hn
  have H := Lib.hid hA'
  have hx' : x = 2 ∨ x = 3 ∨ x = 4 ∨ x = 5 ∨ x = 6 := by omega
  have hk' : kind = 58 ∨ kind = 44 ∨ kind = 93 ∨ kind = 125 ∨ kind = 115 ∨ ((kind == 58) = false ∧ (kind == 44) = false ∧ (kind == 93) = false ∧ (kind == 125) = false ∧ (kind == 115) = false) := by
    simp only [beq_eq_false_iff_ne]
    omega
  clear h hA' hf hm hE hn hx
  simp only [tokVal, Tok.cells]
  rcases hx' with rfl | rfl | rfl | rfl | rfl <;> rcases hk' with rfl | rfl | rfl | rfl | rfl | ⟨k1, k2, k3, k4, k5⟩
  any_goals (solve | exact absurd ⟨rfl, rfl⟩ hA | exact absurd ⟨rfl, rfl⟩ hB | exact absurd ⟨rfl, Or.inl rfl⟩ hD | exact absurd ⟨rfl, Or.inr rfl⟩ hD)
  all_goals
    clear hA hB hD
    go_enter Try.func42, Try.ntmps42
    go_wp2_with fail
    go_ret2
    exact ⟨rfl, jsLeft_same (H.out.setE 2) ((((Keeps.refl _ _).alloc _)).setCell (Or.inl hself) _)⟩

end Go.Proofs.Ytbeocehadnhmnaa
