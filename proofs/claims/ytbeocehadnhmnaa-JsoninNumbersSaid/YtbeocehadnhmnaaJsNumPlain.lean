/-
  Numbers in an array: what jsonin.All tells.
-/
import Derived.Test.YtbeocehadnhmnaaJsEat
import Derived.Test.YtbeocehadnhmnaaLexBlanksP
namespace Go.Tru

def numT (w : Bool × Nat) : Tok := ⟨110, ⟨#[]⟩, w.1, w.2⟩

theorem rest_num {L : Lex} (h : L.Rest) (w : Bool × Nat) (hm : w.2 < 18446744073709551616) {c : UInt8} (hc : isMark c.toNat = true) (hb : isBlank c.toNat = false) (hd : isDig c.toNat = false) (hx : ¬ ((c.toNat : Int) = 46 ∨ (c.toNat : Int) = 101 ∨ (c.toNat : Int) = 69)) :
    ∃ L', L.run (printW w.1 w.2 ++ [c]) = (L', [numT w, Tok.of c.toNat]) ∧ L'.Rest := by
  obtain ⟨z, h1, h2⟩ := at_print w.1 hm
  rw [Lex.run_append, Lex.run_one, Lex.run_print h.1 h.2]
  simp only []
  rw [Lex.step_num (L := { L with state := 2, n := Num.new.ran (printW w.1 w.2) }) h.1 rfl h1 h2 hd hx]
  have : Lex.between { L with state := 0, n := Num.new.ran (printW w.1 w.2) } c.toNat = ({ L with state := 0, n := Num.new.ran (printW w.1 w.2) }, [Tok.of c.toNat]) := by
    unfold Lex.between; rw [if_neg (by simp [hb]), if_pos hc]
  simp only [this]
  refine ⟨{ L with state := 0, n := Num.new.ran (printW w.1 w.2) }, ?_, h.1, rfl⟩
  rw [if_neg (by simp [h.1])]
  rfl

/-- blanks between two tokens -/
theorem rest_blanks {L : Lex} (h : L.Rest) : ∀ (l : List UInt8), (∀ x ∈ l, isBlank x.toNat = true) → L.run l = (L, [])
  | [], _ => rfl
  | x :: l, hb => by
    rw [run_cons, step_blank h (hb x (List.mem_cons_self ..))]
    simp only []
    rw [rest_blanks h l (fun y hy => hb y (List.mem_cons_of_mem _ hy))]
    rfl

def numsPre (bl : Nat → List UInt8) (ws : Nat → Bool × Nat) : Nat → List UInt8
  | 0 => [91]
  | k + 1 => numsPre bl ws k ++ (if k = 0 then [] else [44]) ++ bl k ++ printW (ws k).1 (ws k).2

def numsDone (ws : Nat → Bool × Nat) : Nat → List Tok
  | 0 => [Tok.of 91]
  | k + 1 => numsDone ws k ++ (if k = 0 then [] else [Tok.of 44]) ++ [numT (ws k)]

theorem nums_run (bl : Nat → List UInt8) (ws : Nat → Bool × Nat) (n : Nat) (hb : ∀ k, k < n → ∀ x ∈ bl k, isBlank x.toNat = true) (hw : ∀ k, k < n → (ws k).2 < 18446744073709551616) :
    ∀ k, k ≤ n → ∀ c : UInt8, (c = 44 ∨ c = 93) → ∃ L, Lex.new.run (numsPre bl ws k ++ [c]) = (L, numsDone ws k ++ [Tok.of c.toNat]) ∧ L.Rest
  | 0, _, c, hc => by
    rcases hc with rfl | rfl <;> exact ⟨_, rfl, rfl, rfl⟩
  | k + 1, hk, c, hc => by
    have hst : ∃ M, Lex.new.run (numsPre bl ws k ++ (if k = 0 then [] else [44])) = (M, numsDone ws k ++ (if k = 0 then [] else [Tok.of 44])) ∧ M.Rest := by
      by_cases h0 : k = 0
      · subst h0
        exact ⟨_, rfl, rfl, rfl⟩
      · rw [if_neg h0, if_neg h0]
        exact nums_run bl ws n hb hw k (by omega) 44 (Or.inl rfl)
    obtain ⟨M, h1, h2⟩ := hst
    have hcm : isMark c.toNat = true ∧ isBlank c.toNat = false ∧ isDig c.toNat = false ∧ ¬ ((c.toNat : Int) = 46 ∨ (c.toNat : Int) = 101 ∨ (c.toNat : Int) = 69) := by
      rcases hc with rfl | rfl <;> decide
    obtain ⟨L, h3, h4⟩ := rest_num h2 (ws k) (hw k (by omega)) hcm.1 hcm.2.1 hcm.2.2.1 hcm.2.2.2
    refine ⟨L, ?_, h4⟩
    have e : numsPre bl ws (k + 1) ++ [c] = (numsPre bl ws k ++ (if k = 0 then [] else [44])) ++ (bl k ++ (printW (ws k).1 (ws k).2 ++ [c])) := by simp [numsPre]
    rw [e, Lex.run_append, h1]
    simp only []
    rw [Lex.run_append M, rest_blanks h2 _ (hb k (by omega))]
    simp only []
    rw [h3]
    simp [numsDone]

/-- the parts -/
def numEvs (ws : Nat → Bool × Nat) (n : Nat) : List Ev := (List.range n).map (fun k => evInt (ws k).1 (ws k).2)

theorem nums_toks (ws : Nat → Bool × Nat) : ∀ k, (Js.new 1).toks (numsDone ws k) = (evArr (-1) :: numEvs ws k, { Js.new 1 with maps := [false], next := if k = 0 then 1 else 5 })
  | 0 => rfl
  | k + 1 => by
    have ih := nums_toks ws k
    have he : ((Js.new 1).toks (numsDone ws k)).2.e = 0 := by rw [ih]; rfl
    have e : numsDone ws (k + 1) = numsDone ws k ++ ((if k = 0 then [] else [Tok.of 44]) ++ [numT (ws k)]) := by simp [numsDone]
    rw [e, js_toks_append _ _ _ he, ih]
    have er : numEvs ws (k + 1) = numEvs ws k ++ [evInt (ws k).1 (ws k).2] := by unfold numEvs; rw [List.range_succ]; simp
    rw [er]
    by_cases h0 : k = 0
    · subst h0
      rfl
    · rw [if_neg h0, if_neg h0]
      rfl

theorem nums_all (bl : Nat → List UInt8) (ws : Nat → Bool × Nat) (n : Nat) (hb : ∀ k, k < n → ∀ x ∈ bl k, isBlank x.toNat = true) (hw : ∀ k, k < n → (ws k).2 < 18446744073709551616) :
    jsAll (numsPre bl ws n ++ [93]) 1 = (evArr (-1) :: numEvs ws n ++ [evEnd], 0) := by
  obtain ⟨L, h1, h2⟩ := nums_run bl ws n hb hw n (Nat.le_refl _) 93 (Or.inr rfl)
  have hf : L.fin = (L, []) := by unfold Lex.fin; rw [if_pos (Or.inr h2.2)]
  have ih := nums_toks ws n
  have he : ((Js.new 1).toks (numsDone ws n)).2.e = 0 := by rw [ih]; rfl
  have ht : (Js.new 1).toks (numsDone ws n ++ [Tok.of 93]) = (evArr (-1) :: numEvs ws n ++ [evEnd], { Js.new 1 with maps := [], next := 6 }) := by
    rw [js_toks_append _ _ _ he, ih]
    by_cases h0 : n = 0
    · subst h0; rfl
    · rw [if_neg h0]; rfl
  have ht' : (Js.new 1).toks (numsDone ws n ++ [Tok.of ((93 : UInt8).toNat : Int)] ++ []) = (evArr (-1) :: numEvs ws n ++ [evEnd], { Js.new 1 with maps := [], next := 6 }) := by
    rw [List.append_nil]; exact ht
  rw [jsAll_toks (by omega) h1 h2.1 hf h2.1 (by rw [ht']; rfl) (by rw [ht'])]
  rw [ht']

end Go.Tru
