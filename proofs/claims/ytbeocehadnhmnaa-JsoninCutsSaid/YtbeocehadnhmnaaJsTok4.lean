/-
  jsonin.Parser: token: what goes on.
-/
import Derived.Test.YtbeocehadnhmnaaJsTok2
namespace Go.Proofs.Ytbeocehadnhmnaa
open Go.RowKit Go.Tru

set_option maxHeartbeats 2000000 in
set_option maxRecDepth 100000 in
theorem token_colon (base b : Nat) (mv : Value) (p : Js) (F : List Nat) (t : Tok) (w : World) (h : JsIn w base b mv p F) (hA : t.kind = 58 ∧ p.next = 4) :
    Calls Try.prog 42 #[.pointer (some ⟨b, 0, none⟩), tokVal t] w fun e w' => TokLeft w base b mv F (none, { p with next := 0 }) e w' := by
  obtain ⟨kind, text, neg, mag⟩ := t
  have hself := js_self h
  obtain ⟨o, c, hmv⟩ := h.maps.shape
  obtain ⟨n, hrn⟩ : ∃ n : Nat, p.maps.length = n := ⟨_, rfl⟩
  rw [hrn] at hmv
  subst hmv
  have hA' := h.keep0 (((Keeps.refl [] w).alloc (.cells #[.int .u8 kind, .string text, .bool neg, .int .u64 mag] 113)))
  obtain ⟨g23, g24, g25, g26, hlt, hbm⟩ := js_facts hA'
  obtain ⟨f24, f25, f26⟩ := js_free hA'
  simp only at hA
  obtain ⟨rfl, hx⟩ := hA
  rw [hx] at g25
  have H := Lib.hid hA'
  clear h hA' hx hrn
  simp only [tokVal, Tok.cells]
  go_enter Try.func42, Try.ntmps42
  go_wp2_with fail
  go_ret2
  exact ⟨rfl, jsLeft_same (H.out.setNext 0) ((((Keeps.refl _ _).alloc _)).setCell (Or.inl hself) _)⟩

set_option maxHeartbeats 2000000 in
set_option maxRecDepth 100000 in
theorem token_key (base b : Nat) (mv : Value) (p : Js) (F : List Nat) (t : Tok) (w : World) (h : JsIn w base b mv p F) (hA : t.kind = 115 ∧ (p.next = 3 ∨ p.next = 2)) :
    Calls Try.prog 42 #[.pointer (some ⟨b, 0, none⟩), tokVal t] w fun e w' => TokLeft w base b mv F (some (evText t.text), { p with next := 4 }) e w' := by
  obtain ⟨kind, text, neg, mag⟩ := t
  have hself := js_self h
  obtain ⟨o, c, hmv⟩ := h.maps.shape
  obtain ⟨n, hrn⟩ : ∃ n : Nat, p.maps.length = n := ⟨_, rfl⟩
  rw [hrn] at hmv
  subst hmv
  have hA' := h.keep0 (((Keeps.refl [] w).alloc (.cells #[.int .u8 kind, .string text, .bool neg, .int .u64 mag] 113)))
  obtain ⟨g23, g24, g25, g26, hlt, hbm⟩ := js_facts hA'
  obtain ⟨f24, f25, f26⟩ := js_free hA'
  simp only at hA
  obtain ⟨rfl, hx⟩ := hA
  have H := Lib.hid hA'
  clear h hA' hrn
  simp only [tokVal, Tok.cells]
  rcases hx with hx | hx
  all_goals
    rw [hx] at g25
    clear hx
    go_enter Try.func42, Try.ntmps42
    go_wp2_with fail
    go_ret2
    exact ⟨rfl, jsLeft_same (H.out.setNext 4) ((((Keeps.refl _ _).alloc _)).setCell (Or.inl hself) _)⟩

set_option maxHeartbeats 2000000 in
set_option maxRecDepth 100000 in
theorem token_comma (base b : Nat) (mv : Value) (p : Js) (F : List Nat) (t : Tok) (w : World) (h : JsIn w base b mv p F) (hf : p.Fit) (hA : t.kind = 44 ∧ p.next = 5) (m : Bool) (r : List Bool) (hm : p.maps = m :: r) :
    Calls Try.prog 42 #[.pointer (some ⟨b, 0, none⟩), tokVal t] w fun e w' => TokLeft w base b mv F (none, { p with next := if m = true then 3 else 0 }) e w' := by
  obtain ⟨kind, text, neg, mag⟩ := t
  have hself := js_self h
  have hA' := h.keep0 (((Keeps.refl [] w).alloc (.cells #[.int .u8 kind, .string text, .bool neg, .int .u64 mag] 113)))
  obtain ⟨g, cap, rfl, gb, gl, gr, gm, gc, gne⟩ := js_top hA' hm
  have hr16 : r.length + 1 ≤ 16 := by have := hf.maps; have := hf.depth; rw [hm] at *; simp only [List.length_cons] at *; omega
  obtain ⟨g23, g24, g25, g26, hlt, hbm⟩ := js_facts hA'
  obtain ⟨f24, f25, f26⟩ := js_free hA'
  simp only at hA
  obtain ⟨rfl, hx⟩ := hA
  rw [hx] at g25
  obtain ⟨n, hrn⟩ : ∃ n : Nat, r.length = n := ⟨_, rfl⟩
  have H := Lib.hid hA'
  rw [hrn] at g24 gr gc hr16 H hself hbm
  rw [hrn]
  clear h hA' hf hm hx hrn
  simp only [tokVal, Tok.cells]
  cases m
  · go_enter Try.func42, Try.ntmps42
    go_wp2_with fail
    go_ret2
    exact ⟨rfl, jsLeft_same (H.out.setNext 0) ((((Keeps.refl _ _).alloc _)).setCell (Or.inl hself) _)⟩
  · go_enter Try.func42, Try.ntmps42
    go_wp2_with fail
    go_ret2
    exact ⟨rfl, jsLeft_same ((H.out.setNext 0).setNext 3) (((((Keeps.refl _ _).alloc _)).setCell (Or.inl hself) _).setCell (Or.inl hself) _)⟩

set_option maxHeartbeats 2000000 in
set_option maxRecDepth 100000 in
theorem token_end (base b : Nat) (mv : Value) (p : Js) (F : List Nat) (t : Tok) (w : World) (h : JsIn w base b mv p F) (hf : p.Fit) (m : Bool) (r : List Bool) (hm : p.maps = m :: r) (hC : (t.kind = 93 ∧ m = false ∧ (p.next = 1 ∨ p.next = 5)) ∨ (t.kind = 125 ∧ m = true ∧ (p.next = 2 ∨ p.next = 5))) :
    Calls Try.prog 42 #[.pointer (some ⟨b, 0, none⟩), tokVal t] w fun e w' => TokLeft w base b mv F (some evEnd, Js.behind { p with maps := r }) e w' := by
  obtain ⟨kind, text, neg, mag⟩ := t
  have hself := js_self h
  have hA' := h.keep0 (((Keeps.refl [] w).alloc (.cells #[.int .u8 kind, .string text, .bool neg, .int .u64 mag] 113)))
  obtain ⟨g, cap, rfl, gb, gl, gr, gm, gc, gne⟩ := js_top hA' hm
  have hr16 : r.length + 1 ≤ 16 := by have := hf.maps; have := hf.depth; rw [hm] at *; simp only [List.length_cons] at *; omega
  obtain ⟨g23, g24, g25, g26, hlt, hbm⟩ := js_facts hA'
  obtain ⟨f24, f25, f26⟩ := js_free hA'
  have H := Lib.hid hA'
  have HM := Lib.hid hm
  have hbeh := fun W mv' p' hW => behind_js base b mv' p' F W hW
  clear h hA' hf hm
  simp only [tokVal, Tok.cells]
  simp only at hC
  have hC' : (kind = 93 ∧ m = false ∧ p.next = 1) ∨ (kind = 93 ∧ m = false ∧ p.next = 5) ∨ (kind = 125 ∧ m = true ∧ p.next = 2) ∨ (kind = 125 ∧ m = true ∧ p.next = 5) := by
    rcases hC with ⟨h1, h2, h3 | h3⟩ | ⟨h1, h2, h3 | h3⟩ <;> simp [h1, h2, h3]
  clear hC
  rcases hC' with ⟨rfl, rfl, hx⟩ | ⟨rfl, rfl, hx⟩ | ⟨rfl, rfl, hx⟩ | ⟨rfl, rfl, hx⟩
  all_goals
    rw [hx] at g25
    clear hx
    go_enter Try.func42, Try.ntmps42
    go_wp2_with fail
    refine (hbeh _ _ _ (H.out.setMaps (Keeps.refl _ _) (OwnsMaps.pop (HM.out ▸ H.out.maps)) (fun i hi => Or.inl hi))).mono ?_
    rintro e w1 ⟨rfl, h1, k1⟩
    have H1 := Lib.hid h1
    have K1 := Lib.hid (keepsB hself k1)
    clear h1 k1
    go_wp2_with fail
    go_ret2
    exact ⟨rfl, _, F, H1.out, ((((Keeps.refl _ w).alloc _).setCell (Or.inl hself) _).trans K1.out), fun i hi => Or.inl hi⟩

set_option maxHeartbeats 4000000 in
set_option maxRecDepth 100000 in
theorem token_go0 (base b : Nat) (mv : Value) (p : Js) (F : List Nat) (t : Tok) (w : World) (h : JsIn w base b mv p F) (hf : p.Fit) (hbase : base ≤ w.heap.size) (hE : p.next = 0 ∨ p.next = 1) (hm : p.maps = []) :
    Calls Try.prog 42 #[.pointer (some ⟨b, 0, none⟩), tokVal t] w fun e w' => TokLeft w base b mv F (p.value t) e w' := by
  have hval := fun W hW hb => value_any base b mv p F t W hW hf hb
  obtain ⟨q, p', hr⟩ : ∃ q p', p.value t = (q, p') := ⟨_, _, rfl⟩
  rw [hr] at hval ⊢
  obtain ⟨kind, text, neg, mag⟩ := t
  have hself := js_self h
  obtain ⟨o, c, hmv⟩ := h.maps.shape
  rw [hm] at hmv
  subst hmv
  have hA' := h.keep0 (((Keeps.refl [] w).alloc (.cells #[.int .u8 kind, .string text, .bool neg, .int .u64 mag] 113)))
  obtain ⟨g23, g24, g25, g26, hlt, hbm⟩ := js_facts hA'
  obtain ⟨f24, f25, f26⟩ := js_free hA'
  obtain ⟨x, hx⟩ : ∃ x, p.next = x := ⟨_, rfl⟩
  rw [hx] at g25 hE
  have H := Lib.hid hA'
  have hk' : kind = 58 ∨ kind = 44 ∨ kind = 93 ∨ kind = 125 ∨ kind = 115 ∨ ((kind == 58) = false ∧ (kind == 44) = false ∧ (kind == 93) = false ∧ (kind == 125) = false ∧ (kind == 115) = false) := by
    simp only [beq_eq_false_iff_ne]
    omega
  clear h hA' hf hm hx hr
  simp only [tokVal, Tok.cells] at hval ⊢
  rcases hE with rfl | rfl <;> rcases hk' with rfl | rfl | rfl | rfl | rfl | ⟨k1, k2, k3, k4, k5⟩
  all_goals
    go_enter Try.func42, Try.ntmps42
    go_wp2_with fail
    refine (hval _ H.out (by simp; omega)).mono ?_
    rintro e w1 ⟨rfl, h1⟩
    have H1 := Lib.hid h1
    clear h1
    cases q <;> (
      simp only [optVal]
      go_wp2_with fail
      go_ret2
      exact ⟨rfl, JsLeft.trans ((Keeps.refl _ w).alloc _) (fun _ hi => Or.inl hi) H1.out⟩)

end Go.Proofs.Ytbeocehadnhmnaa
