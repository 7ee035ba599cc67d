/-
  lexer.Lexer, plainly: the tokens that end with each byte.
-/
import Derived.Test.YtmhkgfddlkdmgaaEscModel
import Derived.Test.YtmhkgfddlkdmgaaDecModel
namespace Go.Tru

structure Tok where
  kind : Int
  text : ByteArray
  neg : Bool
  mag : Nat

def Tok.cells (t : Tok) : List Value := [.int .u8 t.kind, .string t.text, .bool t.neg, .int .u64 t.mag]
def Tok.of (k : Int) : Tok := ⟨k, ⟨#[]⟩, false, 0⟩

/-- what a Lexer holds; s: the bytes of the string that is open -/
structure Lex where
  state : Int
  r : Rdr
  s : List UInt8
  n : Num
  rest : List UInt8
  kind : Int
  e : Int

def Lex.new : Lex := ⟨0, Rdr.new, [], Num.new, [], 0, 0⟩

def isBlank (b : Int) : Bool := decide (b = 32 ∨ b = 9 ∨ b = 10 ∨ b = 13)
def isMark (b : Int) : Bool := decide (b = 123 ∨ b = 125 ∨ b = 91 ∨ b = 93 ∨ b = 58 ∨ b = 44)

def Lex.between (L : Lex) (b : Int) : Lex × List Tok :=
  if isBlank b = true then (L, [])
  else if isMark b = true then (L, [Tok.of b])
  else if b = 34 then ({ L with state := 1, r := Rdr.new, s := [] }, [])
  else if b = 45 ∨ isDig b = true then ({ L with state := 2, n := Num.new.after b, e := (Num.new.after b).e }, [])
  else if b = 116 then ({ L with state := 3, rest := [114, 117, 101], kind := 116 }, [])
  else if b = 102 then ({ L with state := 3, rest := [97, 108, 115, 101], kind := 102 }, [])
  else if b = 110 then ({ L with state := 3, rest := [117, 108, 108], kind := 48 }, [])
  else ({ L with e := 2 }, [])

def Lex.text (L : Lex) (b : Int) : Lex × List Tok :=
  if b = 34 ∧ L.r.whole = true then ({ L with state := 0, s := [] }, [⟨115, ⟨L.s.toArray⟩, false, 0⟩])
  else ({ L with r := (L.r.step b).1, s := L.s ++ (L.r.step b).2, e := if (L.r.step b).1.e = 0 ∧ 200 < (L.s ++ (L.r.step b).2).length then 5 else (L.r.step b).1.e }, [])

def Lex.word (L : Lex) (b : Int) : Lex × List Tok :=
  match L.rest with
  | [] => ({ L with e := 2 }, [])
  | x :: t => if (x.toNat : Int) = b then (if t = [] then ({ L with rest := [], state := 0 }, [Tok.of L.kind]) else ({ L with rest := t }, [])) else ({ L with e := 2 }, [])

def Lex.ended (L : Lex) : Lex × List Tok :=
  if L.n.result.2.2 ≠ 0 then ({ L with e := L.n.result.2.2 }, [])
  else ({ L with state := 0, e := 0 }, [⟨110, ⟨#[]⟩, L.n.result.1, L.n.result.2.1⟩])

def Lex.number (L : Lex) (b : Int) : Lex × List Tok :=
  if L.n.took b = true ∨ (L.n.after b).e ≠ 0 then ({ L with n := L.n.after b, e := (L.n.after b).e }, [])
  else if (Lex.ended { L with n := L.n.after b, e := 0 }).1.e ≠ 0 then ((Lex.ended { L with n := L.n.after b, e := 0 }).1, [])
  else (((Lex.ended { L with n := L.n.after b, e := 0 }).1.between b).1, (Lex.ended { L with n := L.n.after b, e := 0 }).2 ++ ((Lex.ended { L with n := L.n.after b, e := 0 }).1.between b).2)

def Lex.turn (L : Lex) (b : Int) : Lex × List Tok :=
  if L.state = 1 then L.text b else if L.state = 3 then L.word b else if L.state = 2 then L.number b else L.between b

def Lex.step (L : Lex) (b : Int) : Lex × List Tok :=
  if L.e ≠ 0 then (L, []) else ((L.turn b).1, if (L.turn b).1.e ≠ 0 then [] else (L.turn b).2)

def Lex.fin (L : Lex) : Lex × List Tok :=
  if L.e ≠ 0 ∨ L.state = 0 then (L, []) else if L.state = 2 then L.ended else ({ L with e := 3 }, [])

def Lex.held (L : Lex) : Nat := if L.e ≠ 0 ∨ L.state ≠ 1 then 0 else L.s.length

/-- the bounds that a Lexer keeps -/
structure Lex.Fit (L : Lex) : Prop where
  r : L.r.Fit
  v : L.n.v < 18446744073709551616
  s : L.s.length ≤ 204
  rest : L.rest.length ≤ 4 ∧ ∀ x ∈ L.rest, x.toNat < 128

theorem after_lt {n : Num} (hv : n.v < 18446744073709551616) (x : Int) : (n.after x).v < 18446744073709551616 := by
  unfold Num.after
  split
  · exact hv
  · split
    · show (n.add _).v < _
      unfold Num.add
      split
      · exact hv
      · exact Nat.mod_lt _ (by decide)
    · split
      · exact hv
      · split
        · exact hv
        · split
          · exact hv
          · exact hv

theorem Lex.fit_new : Lex.new.Fit := ⟨Rdr.fit_new, by decide, by decide, by simp [Lex.new]⟩

theorem Lex.fit_between {L : Lex} (h : L.Fit) (b : Int) : (L.between b).1.Fit := by
  obtain ⟨h1, h2, h3, h4⟩ := h
  unfold Lex.between
  repeat' split
  · exact ⟨h1, h2, h3, h4⟩
  · exact ⟨h1, h2, h3, h4⟩
  · exact ⟨Rdr.fit_new, h2, by simp, h4⟩
  · exact ⟨h1, after_lt (n := Num.new) (by decide) b, h3, h4⟩
  · exact ⟨h1, h2, h3, by simp⟩
  · exact ⟨h1, h2, h3, by simp⟩
  · exact ⟨h1, h2, h3, by simp⟩
  · exact ⟨h1, h2, h3, h4⟩

theorem Lex.fit_word {L : Lex} (h : L.Fit) (b : Int) : (L.word b).1.Fit := by
  obtain ⟨h1, h2, h3, h4⟩ := h
  unfold Lex.word
  split
  · exact ⟨h1, h2, h3, h4⟩
  · rename_i x t he
    rw [he] at h4
    repeat' split
    · exact ⟨h1, h2, h3, by simp⟩
    · exact ⟨h1, h2, h3, by simp only [List.length_cons] at h4 ⊢; omega, fun y hy => h4.2 y (List.mem_cons_of_mem _ hy)⟩
    · exact ⟨h1, h2, h3, by rw [he]; exact h4⟩

theorem Lex.fit_ended {L : Lex} (h : L.Fit) : L.ended.1.Fit := by
  obtain ⟨h1, h2, h3, h4⟩ := h
  unfold Lex.ended
  split <;> exact ⟨h1, h2, h3, h4⟩

theorem Lex.fit_number {L : Lex} (h : L.Fit) (b : Int) : (L.number b).1.Fit := by
  have h0 : Lex.Fit { L with n := L.n.after b, e := 0 } := ⟨h.r, after_lt h.v b, h.s, h.rest⟩
  unfold Lex.number
  repeat' split
  · exact ⟨h.r, after_lt h.v b, h.s, h.rest⟩
  · exact Lex.fit_ended h0
  · exact Lex.fit_between (Lex.fit_ended h0) b

/-- between two bytes, no error: the text is no longer than may be -/
def Lex.Mid (L : Lex) : Prop := L.e = 0 → L.s.length ≤ 200

theorem Lex.fit_text {L : Lex} (h : L.Fit) (hs : L.s.length ≤ 200) (b : Int) : (L.text b).1.Fit := by
  have := Rdr.out_len L.r b
  unfold Lex.text
  split
  · exact ⟨h.r, h.v, by simp, h.rest⟩
  · exact ⟨Rdr.fit_step h.r b, h.v, by simp only [List.length_append]; omega, h.rest⟩

theorem Lex.fit_step {L : Lex} (h : L.Fit) (hm : L.Mid) (b : Int) : (L.step b).1.Fit := by
  unfold Lex.step
  split
  · exact h
  · rename_i he
    simp only [ne_eq, Decidable.not_not] at he
    show (L.turn b).1.Fit
    unfold Lex.turn
    split
    · exact Lex.fit_text h (hm he) b
    split
    · exact Lex.fit_word h b
    split
    · exact Lex.fit_number h b
    · exact Lex.fit_between h b

theorem Lex.mid_new : Lex.new.Mid := fun _ => by decide

theorem Lex.between_s {L : Lex} (b : Int) (hs : L.s.length ≤ 200) : (L.between b).1.s.length ≤ 200 := by
  unfold Lex.between
  repeat' split
  all_goals first | exact hs | simp

theorem Lex.ended_s (L : Lex) : L.ended.1.s = L.s := by unfold Lex.ended; split <;> rfl

theorem Lex.mid_step {L : Lex} (hm : L.Mid) (b : Int) : (L.step b).1.Mid := by
  unfold Lex.step
  split
  · exact hm
  · rename_i he
    simp only [ne_eq, Decidable.not_not] at he
    have hs := hm he
    intro he2
    simp only [] at he2 ⊢
    unfold Lex.turn at he2 ⊢
    split at he2
    · rename_i h1
      rw [if_pos h1]
      unfold Lex.text at he2 ⊢
      split
      · simp
      · rename_i h2
        rw [if_neg h2] at he2
        simp only [] at he2 ⊢
        by_cases hc : (L.r.step b).1.e = 0 ∧ 200 < (L.s ++ (L.r.step b).2).length
        · rw [if_pos hc] at he2; exact absurd he2 (by decide)
        · rw [if_neg hc] at he2
          have : ¬ 200 < (L.s ++ (L.r.step b).2).length := fun h => hc ⟨he2, h⟩
          omega
    · rename_i h1
      rw [if_neg h1]
      split
      · unfold Lex.word
        repeat' split
        all_goals exact hs
      split
      · unfold Lex.number
        repeat' split
        · exact hs
        · rw [Lex.ended_s]; exact hs
        · exact Lex.between_s b (by rw [Lex.ended_s]; exact hs)
      · exact Lex.between_s b hs

/-- so many bytes one behind the other: the tokens, up to the first error -/
def Lex.run (L : Lex) : List UInt8 → Lex × List Tok
  | [] => (L, [])
  | b :: l => (((L.step b.toNat).1.run l).1, (L.step b.toNat).2 ++ ((L.step b.toNat).1.run l).2)

theorem Lex.run_append (L : Lex) (l m : List UInt8) : L.run (l ++ m) = (((L.run l).1.run m).1, (L.run l).2 ++ ((L.run l).1.run m).2) := by
  induction l generalizing L with
  | nil => simp [Lex.run]
  | cons b l ih => simp [Lex.run, ih]

theorem Lex.run_one (L : Lex) (b : UInt8) : L.run [b] = L.step b.toNat := by simp [Lex.run]

theorem Lex.run_bad {L : Lex} (h : L.e ≠ 0) : ∀ l, L.run l = (L, [])
  | [] => rfl
  | b :: l => by
    have e1 : L.step b.toNat = (L, []) := by unfold Lex.step; rw [if_pos h]
    simp only [Lex.run, e1, Lex.run_bad h l, List.append_nil]

theorem Lex.ok_run {L : Lex} (h : L.Fit ∧ L.Mid) : ∀ l, (L.run l).1.Fit ∧ (L.run l).1.Mid := by
  intro l
  induction l generalizing L with
  | nil => exact h
  | cons b l ih => exact ih ⟨Lex.fit_step h.1 h.2 _, Lex.mid_step h.2 _⟩

end Go.Tru
