/-
  decimal, plainly: a number that comes digit by digit; what a text is read as; a number's digits.
-/
import Derived.Test.YtmhkgfddlkdmgaaTru
import Derived.Lib.ItoaNum
namespace Go.Tru
open Go.RowKit

structure Num where
  neg : Bool
  minus : Bool
  digits : Bool
  zero : Bool
  v : Nat
  top : Bool
  over : Bool
  e : Int

def Num.new : Num := ⟨false, false, false, false, 0, false, false, 0⟩

def Num.cells (n : Num) : List Value := [.bool n.neg, .bool n.minus, .bool n.digits, .bool n.zero, .int .u64 n.v, .bool n.top, .bool n.over, .int .i64 n.e]

def isDig (b : Int) : Bool := decide (48 ≤ b ∧ b ≤ 57)

/-- a digit behind the others -/
def Num.add (n : Num) (d : Nat) : Num :=
  if n.top || n.over then { n with over := true }
  else { n with v := (n.v * 10 + d) % 18446744073709551616, top := (n.v * 10 + d) / 18446744073709551616 == 1, over := decide (1 < (n.v * 10 + d) / 18446744073709551616) }

/-- it behind a byte -/
def Num.after (n : Num) (b : Int) : Num :=
  if n.e ≠ 0 then n
  else if isDig b = true ∧ n.zero = false then { n.add (b - 48).toNat with zero := !n.digits && b == 48, digits := true }
  else if b = 45 ∧ n.minus = false ∧ n.digits = false then { n with minus := true, neg := true }
  else if n.digits = true ∧ (b = 46 ∨ b = 101 ∨ b = 69) then { n with e := 6 }
  else if n.digits = false ∨ isDig b = true then { n with e := 2 }
  else n

/-- is the byte of the number? -/
def Num.took (n : Num) (b : Int) : Bool := n.e == 0 && (isDig b && !n.zero || b == 45 && !n.minus && !n.digits)

/-- the number: below 0, how much, the error -/
def Num.result (n : Num) : Bool × Nat × Int :=
  if n.e ≠ 0 then (false, 0, n.e)
  else if n.digits = false then (false, 0, 2)
  else if n.over = true ∨ n.top = true ∧ (n.neg = false ∨ 0 < n.v) then (false, 0, 7)
  else if n.neg = true ∧ (0 < n.v ∨ n.top = true) then (true, (n.v + 18446744073709551615) % 18446744073709551616, 0)
  else (false, n.v, 0)

def parseFrom (n : Num) : List UInt8 → Bool × Nat × Int
  | [] => n.result
  | b :: t => if (n.after b.toNat).e ≠ 0 then (false, 0, (n.after b.toNat).e) else if n.took b.toNat = true then parseFrom (n.after b.toNat) t else (false, 0, 2)

/-- a number's digits -/
def printW (neg : Bool) (mag : Nat) : List UInt8 := if neg = true then 45 :: Lib.decDigits (mag + 1) else Lib.decDigits mag

/-! ### its value -/

def numOf (v : Nat) (l : List UInt8) : Nat := l.foldl (fun v b => v * 10 + (b.toNat - 48)) v
def allDig (l : List UInt8) : Prop := ∀ b ∈ l, isDig b.toNat = true

/-- what it holds is this number -/
def Num.Is (n : Num) (val : Nat) : Prop :=
  n.over = true ∧ 36893488147419103232 ≤ val ∨ n.over = false ∧ n.top = true ∧ n.v + 18446744073709551616 = val ∧ n.v < 18446744073709551616 ∨ n.over = false ∧ n.top = false ∧ n.v = val ∧ val < 18446744073709551616

theorem Num.Is.add {n : Num} {val : Nat} (h : n.Is val) {d : Nat} (hd : d ≤ 9) : (n.add d).Is (val * 10 + d) := by
  rcases h with ⟨h1, h2⟩ | ⟨h1, h2, h3, h4⟩ | ⟨h1, h2, h3, h4⟩
  · left
    simp only [Num.add, h1, Bool.or_true, if_true, true_and]; omega
  · left
    simp only [Num.add, h1, h2, Bool.or_false, if_true, true_and]; omega
  · subst h3
    have hq : (n.v * 10 + d) / 18446744073709551616 = 0 ∨ (n.v * 10 + d) / 18446744073709551616 = 1 ∨ 2 ≤ (n.v * 10 + d) / 18446744073709551616 := by omega
    rcases hq with hq | hq | hq
    · right; right
      refine ⟨?_, ?_, ?_, by omega⟩ <;> simp only [Num.add, h1, h2, Bool.or_self, Bool.false_eq_true, if_false, hq] <;> first | rfl | omega
    · right; left
      refine ⟨?_, ?_, ?_, ?_⟩ <;> simp only [Num.add, h1, h2, Bool.or_self, Bool.false_eq_true, if_false, hq] <;> first | rfl | omega
    · left
      refine ⟨?_, by omega⟩
      simp only [Num.add, h1, h2, Bool.or_self, Bool.false_eq_true, if_false, decide_eq_true_eq]; omega

/-- it has a minus or none (g), and this value; z: the first digit was 0; c: there was a digit -/
structure NumAt (n : Num) (g c z : Bool) (val : Nat) : Prop where
  neg : n.neg = g
  minus : n.minus = g
  digits : n.digits = c
  zero : n.zero = z
  e : n.e = 0
  is : n.Is val

theorem NumAt.new : NumAt Num.new false false false 0 := ⟨rfl, rfl, rfl, rfl, rfl, Or.inr (Or.inr ⟨rfl, rfl, rfl, by omega⟩)⟩

theorem add_neg (n : Num) (d : Nat) : (n.add d).neg = n.neg ∧ (n.add d).minus = n.minus ∧ (n.add d).e = n.e := by
  unfold Num.add; split <;> exact ⟨rfl, rfl, rfl⟩

theorem NumAt.digit {n : Num} {g c : Bool} {val : Nat} (h : NumAt n g c false val) {b : Int} (hb : isDig b = true) :
    NumAt (n.after b) g true (!c && b == 48) (val * 10 + (b - 48).toNat) ∧ n.took b = true ∧ (n.after b).e = 0 := by
  have hd : 48 ≤ b ∧ b ≤ 57 := by simpa [isDig] using hb
  have ha := add_neg n (b - 48).toNat
  have he : n.after b = { n.add (b - 48).toNat with zero := !n.digits && b == 48, digits := true } := by
    unfold Num.after
    rw [if_neg (by rw [h.e]; simp), if_pos ⟨hb, h.zero⟩]
  refine ⟨?_, ?_, ?_⟩
  · rw [he]
    refine ⟨ha.1.trans h.neg, ha.2.1.trans h.minus, rfl, by show (!n.digits && b == 48) = _; rw [h.digits], ha.2.2.trans h.e, ?_⟩
    exact h.is.add (by omega)
  · simp [Num.took, h.e, hb, h.zero]
  · rw [he]; exact ha.2.2.trans h.e

theorem NumAt.sign {n : Num} {val : Nat} (h : NumAt n false false false val) : NumAt (n.after 45) true false false val ∧ n.took 45 = true ∧ (n.after 45).e = 0 := by
  have he : n.after 45 = { n with minus := true, neg := true } := by
    unfold Num.after
    rw [if_neg (by rw [h.e]; simp), if_neg (by simp [isDig]), if_pos ⟨rfl, h.minus, h.digits⟩]
  refine ⟨?_, ?_, ?_⟩
  · rw [he]; exact ⟨rfl, rfl, h.digits, h.zero, h.e, h.is⟩
  · simp [Num.took, h.e, h.minus, h.digits]
  · rw [he]; exact h.e

/-- behind a digit: a point or an exponent -/
theorem NumAt.float {n : Num} {g z : Bool} {val : Nat} (h : NumAt n g true z val) {b : Int} (hb : b = 46 ∨ b = 101 ∨ b = 69) : (n.after b).e = 6 ∧ n.took b = false := by
  have hd : isDig b = false := by rcases hb with rfl | rfl | rfl <;> rfl
  constructor
  · unfold Num.after
    rw [if_neg (by rw [h.e]; simp), if_neg (by simp [hd]), if_neg (by simp [h.digits]), if_pos ⟨h.digits, hb⟩]
  · simp [Num.took, hd, h.digits]

/-- what ends it -/
theorem NumAt.stop {n : Num} {g z : Bool} {val : Nat} (h : NumAt n g true z val) {b : Int} (hd : isDig b = false) (hb : ¬ (b = 46 ∨ b = 101 ∨ b = 69)) : n.after b = n ∧ n.took b = false := by
  constructor
  · unfold Num.after
    rw [if_neg (by rw [h.e]; simp), if_neg (by simp [hd]), if_neg (by simp [h.digits]), if_neg (by simp [hb]), if_neg (by simp [hd, h.digits])]
  · simp [Num.took, hd, h.digits]

/-- behind a 0 that was the first: no digit -/
theorem NumAt.zeroDigit {n : Num} {g : Bool} {val : Nat} (h : NumAt n g true true val) {b : Int} (hd : isDig b = true) : (n.after b).e = 2 ∧ n.took b = false := by
  have h1 : 48 ≤ b ∧ b ≤ 57 := by simpa [isDig] using hd
  constructor
  · unfold Num.after
    rw [if_neg (by rw [h.e]; simp), if_neg (by simp [h.zero]), if_neg (by simp [h.digits]), if_neg (by omega), if_pos (Or.inr hd)]
  · simp [Num.took, h.zero, h.digits]

/-- ahead of a digit: what is none -/
theorem NumAt.none {n : Num} {g : Bool} {val : Nat} (h : NumAt n g false false val) {b : Int} (hd : isDig b = false) (hb : ¬ (b = 45 ∧ g = false)) : (n.after b).e = 2 ∧ n.took b = false := by
  constructor
  · unfold Num.after
    rw [if_neg (by rw [h.e]; simp), if_neg (by simp [hd]), if_neg (by rw [h.minus]; simp; intro h1 h2; exact absurd ⟨h1, h2⟩ hb), if_neg (by simp [h.digits]), if_pos (Or.inl h.digits)]
  · simp only [Num.took, hd, h.minus, h.digits, h.e]
    simp
    intro h1
    cases g
    · exact absurd ⟨h1, rfl⟩ hb
    · rfl

/-- what a value with its sign is -/
def resOf (g : Bool) (val : Nat) : Bool × Nat × Int :=
  if g = true then (if val = 0 then (false, 0, 0) else if val ≤ 18446744073709551616 then (true, val - 1, 0) else (false, 0, 7))
  else if val < 18446744073709551616 then (false, val, 0) else (false, 0, 7)

theorem NumAt.result {n : Num} {g z : Bool} {val : Nat} (h : NumAt n g true z val) : n.result = resOf g val := by
  obtain ⟨h1, _, h3, _, h5, h6⟩ := h
  unfold Num.result resOf
  rw [if_neg (by rw [h5]; simp), if_neg (by rw [h3]; simp), h1]
  rcases h6 with ⟨a, b⟩ | ⟨a, b, c, d⟩ | ⟨a, b, c, d⟩
  · rw [if_pos (Or.inl a)]
    cases g
    · simp; omega
    · simp only [if_true]; rw [if_neg (by omega), if_neg (by omega)]
  · subst c
    rw [a, b]
    cases g
    · simp
    · by_cases hv : n.v = 0
      · simp [hv]
      · rw [if_pos (by simp; omega)]
        simp only [if_true]; rw [if_neg (by omega), if_neg (by omega)]
  · subst c
    rw [a, b]
    cases g
    · simp [d]
    · by_cases hv : n.v = 0
      · simp [hv]
      · rw [if_neg (by simp), if_pos ⟨rfl, Or.inl (by omega)⟩]
        simp only [if_true]; rw [if_neg hv, if_pos (by omega)]
        simp only [Prod.mk.injEq, true_and, and_true]
        omega

def Num.ran (n : Num) (l : List UInt8) : Num := l.foldl (fun n b => n.after b.toNat) n

theorem parse_took {n : Num} {b : UInt8} {t : List UInt8} (h : n.took b.toNat = true) (he : (n.after b.toNat).e = 0) : parseFrom n (b :: t) = parseFrom (n.after b.toNat) t := by
  rw [parseFrom, if_neg (by rw [he]; simp), if_pos h]

theorem parse_err {n : Num} {b : UInt8} {t : List UInt8} (he : (n.after b.toNat).e ≠ 0) : parseFrom n (b :: t) = (false, 0, (n.after b.toNat).e) := by
  rw [parseFrom, if_pos he]

theorem toNat_sub (b : UInt8) : ((b.toNat : Int) - 48).toNat = b.toNat - 48 := by omega

/-- more digits -/
theorem NumAt.run {g : Bool} : ∀ (l : List UInt8) {n : Num} {val : Nat} (_ : NumAt n g true false val) (_ : allDig l) (t : List UInt8),
    NumAt (n.ran l) g true false (numOf val l) ∧ parseFrom n (l ++ t) = parseFrom (n.ran l) t
  | [], n, val, h, _, t => ⟨h, rfl⟩
  | b :: l, n, val, h, hd, t => by
    obtain ⟨h1, h2, h3⟩ := h.digit (hd b (by simp))
    rw [toNat_sub] at h1
    have h1' : NumAt (n.after b.toNat) g true false (val * 10 + (b.toNat - 48)) := by simpa using h1
    obtain ⟨i1, i2⟩ := NumAt.run l h1' (fun x hx => hd x (by simp [hx])) t
    exact ⟨i1, by rw [List.cons_append, parse_took h2 h3, i2]; rfl⟩

/-- digits that may be a number's: no 0 ahead of others -/
def Canon (l : List UInt8) : Prop := allDig l ∧ l ≠ [] ∧ (l.head? = some 48 → l = [48])

theorem NumAt.canon {n : Num} {g : Bool} (h : NumAt n g false false 0) {l : List UInt8} (hl : Canon l) (t : List UInt8) :
    (∃ z, NumAt (n.ran l) g true z (numOf 0 l)) ∧ parseFrom n (l ++ t) = parseFrom (n.ran l) t := by
  obtain ⟨h1, h2, h3⟩ := hl
  match l, h2 with
  | b :: l, _ =>
    obtain ⟨i1, i2, i3⟩ := h.digit (h1 b (by simp))
    rw [toNat_sub] at i1
    by_cases hb : b = 48
    · subst hb
      have := h3 rfl
      simp only [List.cons.injEq, true_and] at this
      subst this
      exact ⟨⟨true, by simpa [Num.ran, numOf] using i1⟩, by rw [List.cons_append, parse_took i2 i3]; rfl⟩
    · have hz : ((b.toNat : Int) == 48) = false := by
        rw [beq_eq_false_iff_ne]
        intro he
        apply hb
        apply UInt8.toNat_inj.1
        have : b.toNat = 48 := by omega
        exact this
      rw [hz] at i1
      obtain ⟨j1, j2⟩ := NumAt.run l (by simpa using i1) (fun x hx => h1 x (by simp [hx])) t
      refine ⟨⟨false, ?_⟩, by rw [List.cons_append, parse_took i2 i3, j2]; rfl⟩
      have e1 : numOf 0 (b :: l) = numOf (0 * 10 + (b.toNat - 48)) l := rfl
      rw [e1, show 0 * 10 + (b.toNat - 48) = b.toNat - 48 by omega]
      simpa [Num.ran] using j1

/-- sign and digits -/
def signed (g : Bool) (l : List UInt8) : List UInt8 := if g = true then 45 :: l else l

theorem parse_signed (g : Bool) {l : List UInt8} (hl : Canon l) (t : List UInt8) : ∃ z, NumAt (Num.new.ran (signed g l)) g true z (numOf 0 l) ∧ parseFrom Num.new (signed g l ++ t) = parseFrom (Num.new.ran (signed g l)) t := by
  cases g
  · obtain ⟨⟨z, h1⟩, h2⟩ := NumAt.new.canon hl t
    exact ⟨z, h1, h2⟩
  · obtain ⟨s1, s2, s3⟩ := NumAt.new.sign
    obtain ⟨⟨z, h1⟩, h2⟩ := s1.canon hl t
    refine ⟨z, h1, ?_⟩
    show parseFrom Num.new ((45 : UInt8) :: (l ++ t)) = _
    rw [parse_took (b := 45) s2 s3]
    exact h2

theorem parse_exact (g : Bool) {l : List UInt8} (hl : Canon l) : parseFrom Num.new (signed g l) = resOf g (numOf 0 l) := by
  obtain ⟨z, h1, h2⟩ := parse_signed g hl []
  rw [List.append_nil] at h2
  rw [h2, parseFrom, h1.result]

/-! ### a number's digits -/

theorem digOf_toNat {k : Nat} (h : k ≤ 9) : (UInt8.ofNat (48 + k)).toNat = 48 + k := by
  rw [UInt8.toNat_ofNat']; omega

theorem isDig_of {k : Nat} (h : k ≤ 9) : isDig (UInt8.ofNat (48 + k)).toNat = true := by
  rw [digOf_toNat h]; simp [isDig]; omega

theorem head_app {l m : List UInt8} (h : l ≠ []) : (l ++ m).head? = l.head? := by
  cases l
  · exact absurd rfl h
  · rfl

theorem numOf_append (v : Nat) (l m : List UInt8) : numOf v (l ++ m) = numOf (numOf v l) m := by simp [numOf]

theorem dec_canon (u : Nat) : Canon (Lib.decDigits u) ∧ numOf 0 (Lib.decDigits u) = u ∧ (Lib.decDigits u = [48] → u = 0) := by
  induction u using Nat.strongRecOn with
  | _ u ih =>
    by_cases h : u < 10
    · rw [Lib.decDigits_one h]
      refine ⟨⟨fun b hb => ?_, by simp, fun hb => ?_⟩, ?_, fun hb => ?_⟩
      · rw [List.mem_singleton] at hb; subst hb; exact isDig_of (by omega)
      · simpa using hb
      · show 0 * 10 + ((UInt8.ofNat (48 + u)).toNat - 48) = u
        rw [digOf_toNat (by omega)]; omega
      · simp only [List.cons.injEq, and_true] at hb
        have := congrArg UInt8.toNat hb
        rw [digOf_toNat (by omega)] at this
        have h48 : (48 : UInt8).toNat = 48 := rfl
        omega
    · rw [Lib.decDigits, dif_neg h]
      obtain ⟨⟨i1, i2, i3⟩, i4, i5⟩ := ih (u / 10) (by omega)
      refine ⟨⟨fun b hb => ?_, by simp, fun hb => ?_⟩, ?_, fun hb => ?_⟩
      · rcases List.mem_append.1 hb with hb | hb
        · exact i1 b hb
        · rw [List.mem_singleton] at hb; subst hb; exact isDig_of (by omega)
      · exfalso
        rw [head_app i2] at hb
        have := i5 (i3 hb)
        omega
      · rw [numOf_append, i4]
        show u / 10 * 10 + ((UInt8.ofNat (48 + u % 10)).toNat - 48) = u
        rw [digOf_toNat (by omega)]; omega
      · exfalso
        have := congrArg List.length hb
        have hl := List.length_pos_iff.2 i2
        simp at this
        exact i2 this

theorem numOf_le (l : List UInt8) : ∀ v, v ≤ numOf v l := by
  induction l with
  | nil => intro v; exact Nat.le_refl _
  | cons b l ih => intro v; have := ih (v * 10 + (b.toNat - 48)); show v ≤ numOf (v * 10 + (b.toNat - 48)) l; omega

/-- digits that may be a number's are that number's -/
theorem canon_dec : ∀ (k : Nat) (l : List UInt8), l.length = k → Canon l → Lib.decDigits (numOf 0 l) = l
  | 0, l, hk, hl => absurd (List.eq_nil_of_length_eq_zero hk) hl.2.1
  | k + 1, l, hk, ⟨h1, h2, h3⟩ => by
    obtain ⟨m, b, rfl⟩ : ∃ m b, l = m ++ [b] := ⟨l.dropLast, l.getLast h2, (List.dropLast_concat_getLast h2).symm⟩
    have hb : 48 ≤ (b.toNat : Int) ∧ (b.toNat : Int) ≤ 57 := by simpa [isDig] using h1 b (by simp)
    have hbo : UInt8.ofNat (48 + (b.toNat - 48)) = b := by
      rw [show 48 + (b.toNat - 48) = b.toNat by omega]; simp
    have hn : numOf 0 (m ++ [b]) = numOf 0 m * 10 + (b.toNat - 48) := by rw [numOf_append]; rfl
    by_cases hm : m = []
    · subst hm
      rw [hn]
      show Lib.decDigits (0 * 10 + (b.toNat - 48)) = [b]
      rw [show 0 * 10 + (b.toNat - 48) = b.toNat - 48 by omega, Lib.decDigits_one (by omega), hbo]
    · have hc : Canon m := ⟨fun x hx => h1 x (by simp [hx]), hm, fun hh => by
        rw [head_app hm] at h3
        have := congrArg List.length (h3 hh)
        simp at this
        exact absurd this hm⟩
      have ih := canon_dec k m (by simpa using hk) hc
      have hpos : ¬ numOf 0 m = 0 := by
        intro h0
        rw [h0, Lib.decDigits_one (by omega)] at ih
        rw [← ih] at h3
        have := congrArg List.length (h3 (by simp))
        simp at this
      rw [hn, Lib.decDigits, dif_neg (by omega), show (numOf 0 m * 10 + (b.toNat - 48)) / 10 = numOf 0 m by omega, ih,
        show (numOf 0 m * 10 + (b.toNat - 48)) % 10 = b.toNat - 48 by omega, hbo]

theorem printW_signed (g : Bool) (m : Nat) : printW g m = signed g (Lib.decDigits (if g = true then m + 1 else m)) := by
  cases g <;> rfl

/-- a number that is printed is read as it was -/
theorem parse_print (g : Bool) (m : Nat) (hm : m < 18446744073709551616) : parseFrom Num.new (printW g m) = (g, m, 0) := by
  obtain ⟨h1, h2, _⟩ := dec_canon (if g = true then m + 1 else m)
  rw [printW_signed, parse_exact g h1, h2]
  cases g
  · simp [resOf, hm]
  · simp only [resOf, if_true]
    rw [if_neg (by omega), if_pos (by omega)]
    simp

/-! ### what is read without an error was digits -/

theorem parse_run_inv {g : Bool} : ∀ (l : List UInt8) {n : Num} {val : Nat} (_ : NumAt n g true false val), (parseFrom n l).2.2 = 0 → allDig l
  | [], _, _, _, _ => fun b hb => by cases hb
  | b :: l, n, val, h, he => by
    cases hd : isDig b.toNat with
    | true =>
      obtain ⟨h1, h2, h3⟩ := h.digit hd
      rw [parse_took h2 h3] at he
      have h1' : NumAt (n.after b.toNat) g true false (val * 10 + ((b.toNat : Int) - 48).toNat) := by simpa using h1
      have ih := parse_run_inv l h1' he
      intro x hx
      rcases List.mem_cons.1 hx with rfl | hx
      · exact hd
      · exact ih x hx
    | false =>
      exfalso
      by_cases hb : (b.toNat : Int) = 46 ∨ (b.toNat : Int) = 101 ∨ (b.toNat : Int) = 69
      · rw [parse_err (by rw [(h.float hb).1]; decide), (h.float hb).1] at he
        exact absurd he (by decide)
      · obtain ⟨s1, s2⟩ := h.stop hd hb
        rw [parseFrom, s1, if_neg (by rw [h.e]; simp), if_neg (by rw [s2]; simp)] at he
        exact absurd he (by decide)

theorem parse_sign_inv {n : Num} {g : Bool} (h : NumAt n g false false 0) {l : List UInt8} (hs : g = true ∨ l.head? ≠ some 45) (he : (parseFrom n l).2.2 = 0) : Canon l := by
  match l with
  | [] =>
    exfalso
    rw [parseFrom] at he
    unfold Num.result at he
    rw [if_neg (by rw [h.e]; simp), if_pos h.digits] at he
    exact absurd he (by decide)
  | b :: l =>
    cases hd : isDig b.toNat with
    | false =>
      exfalso
      have hb : ¬ ((b.toNat : Int) = 45 ∧ g = false) := by
        rintro ⟨h1, h2⟩
        rcases hs with hs | hs
        · rw [h2] at hs; cases hs
        · apply hs
          have : b = 45 := by apply UInt8.toNat_inj.1; show b.toNat = 45; omega
          rw [this]; rfl
      rw [parse_err (by rw [(h.none hd hb).1]; decide), (h.none hd hb).1] at he
      exact absurd he (by decide)
    | true =>
      obtain ⟨h1, h2, h3⟩ := h.digit hd
      rw [parse_took h2 h3] at he
      by_cases hb : b = 48
      · subst hb
        match l with
        | [] => exact ⟨fun x hx => by rw [List.mem_singleton] at hx; subst hx; rfl, by simp, fun _ => rfl⟩
        | c :: l =>
          exfalso
          have h1' : NumAt (n.after ((48 : UInt8).toNat : Int)) g true true (0 * 10 + (((48 : UInt8).toNat : Int) - 48).toNat) := h1
          cases hc : isDig c.toNat with
          | true =>
            rw [parse_err (by rw [(h1'.zeroDigit hc).1]; decide), (h1'.zeroDigit hc).1] at he
            exact absurd he (by decide)
          | false =>
            by_cases hf : (c.toNat : Int) = 46 ∨ (c.toNat : Int) = 101 ∨ (c.toNat : Int) = 69
            · rw [parse_err (by rw [(h1'.float hf).1]; decide), (h1'.float hf).1] at he
              exact absurd he (by decide)
            · obtain ⟨s1, s2⟩ := h1'.stop hc hf
              rw [parseFrom, s1, if_neg (by rw [h1'.e]; simp), if_neg (by rw [s2]; simp)] at he
              exact absurd he (by decide)
      · have hz : ((b.toNat : Int) == 48) = false := by
          rw [beq_eq_false_iff_ne]
          intro hx
          apply hb
          apply UInt8.toNat_inj.1
          show b.toNat = 48
          omega
        rw [hz] at h1
        have ih := parse_run_inv l (g := g) (by simpa using h1) he
        refine ⟨fun x hx => ?_, by simp, fun hx => absurd (by simpa using hx) hb⟩
        rcases List.mem_cons.1 hx with rfl | hx
        · exact hd
        · exact ih x hx

/-- what is read without an error is written so again, but for the minus ahead of 0 -/
theorem parse_back {l : List UInt8} {g : Bool} {m : Nat} (h : parseFrom Num.new l = (g, m, 0)) : m < 18446744073709551616 ∧ (printW g m = l ∨ l = [45, 48] ∧ g = false ∧ m = 0) := by
  have key : ∀ (s : Bool) (k : List UInt8), l = signed s k → Canon k → m < 18446744073709551616 ∧ (printW g m = l ∨ l = [45, 48] ∧ g = false ∧ m = 0) := by
    intro s k hl hk
    subst hl
    rw [parse_exact s hk] at h
    have hdec := canon_dec _ k rfl hk
    cases s
    · simp only [resOf, Bool.false_eq_true, if_false] at h
      by_cases hv : numOf 0 k < 18446744073709551616
      · rw [if_pos hv] at h
        simp only [Prod.mk.injEq, and_true] at h
        obtain ⟨rfl, rfl⟩ := h
        exact ⟨hv, Or.inl hdec⟩
      · rw [if_neg hv] at h
        simp at h
    · simp only [resOf, if_true] at h
      by_cases h0 : numOf 0 k = 0
      · rw [if_pos h0] at h
        simp only [Prod.mk.injEq, and_true] at h
        obtain ⟨rfl, rfl⟩ := h
        rw [h0, Lib.decDigits_one (by omega)] at hdec
        refine ⟨by omega, Or.inr ⟨?_, rfl, rfl⟩⟩
        rw [← hdec]; rfl
      · rw [if_neg h0] at h
        by_cases hv : numOf 0 k ≤ 18446744073709551616
        · rw [if_pos hv] at h
          simp only [Prod.mk.injEq, and_true] at h
          obtain ⟨rfl, rfl⟩ := h
          refine ⟨by omega, Or.inl ?_⟩
          simp only [printW, if_true, signed]
          rw [show numOf 0 k - 1 + 1 = numOf 0 k by omega, hdec]
        · rw [if_neg hv] at h
          simp at h
  have he : (parseFrom Num.new l).2.2 = 0 := by rw [h]
  by_cases hs : l.head? = some 45
  · match l, hs with
    | b :: k, hs =>
      have hb : b = 45 := by simpa using hs
      subst hb
      obtain ⟨s1, s2, s3⟩ := NumAt.new.sign
      rw [parse_took (b := 45) s2 s3] at he
      exact key true k rfl (parse_sign_inv s1 (Or.inl rfl) he)
  · exact key false l rfl (parse_sign_inv NumAt.new (Or.inr hs) he)
end Go.Tru
