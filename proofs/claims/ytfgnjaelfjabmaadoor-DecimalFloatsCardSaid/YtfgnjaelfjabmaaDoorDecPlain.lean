/-
  decimal, plainly: what the laws ask: each byte of a number that is printed is taken; floats; the greatest and the least; which of two is less.
-/
import Derived.Test.YtfgnjaelfjabmaaDoorDecModel
namespace Go.Tru
open Go.RowKit

theorem Num.ran_cons (n : Num) (b : UInt8) (l : List UInt8) : n.ran (b :: l) = (n.after b.toNat).ran l := rfl
theorem Num.ran_append (n : Num) (l m : List UInt8) : n.ran (l ++ m) = (n.ran l).ran m := by simp [Num.ran]

/-- each byte is taken -/
def Num.takes (n : Num) : List UInt8 → Prop
  | [] => True
  | b :: l => n.took b.toNat = true ∧ (n.after b.toNat).e = 0 ∧ (n.after b.toNat).takes l

theorem takes_at : ∀ (l : List UInt8) {n : Num} (_ : n.takes l) (i : Nat) (b : UInt8), l[i]? = some b → (n.ran (l.take i)).took b.toNat = true ∧ ((n.ran (l.take i)).after b.toNat).e = 0 ∧ (n.ran (l.take i)).after b.toNat = n.ran (l.take (i + 1))
  | [], _, _, i, b, h => by simp at h
  | x :: l, n, ht, 0, b, h => by
    obtain rfl : x = b := by simpa using h
    exact ⟨ht.1, ht.2.1, rfl⟩
  | x :: l, n, ht, i + 1, b, h => by
    have := takes_at l ht.2.2 i b (by simpa using h)
    simpa [Num.ran_cons] using this

theorem NumAt.takes {g : Bool} : ∀ (l : List UInt8) {n : Num} {val : Nat} (_ : NumAt n g true false val) (_ : allDig l), n.takes l
  | [], _, _, _, _ => trivial
  | b :: l, n, val, h, hd => by
    obtain ⟨h1, h2, h3⟩ := h.digit (hd b (by simp))
    exact ⟨h2, h3, NumAt.takes l (by simpa using h1) (fun x hx => hd x (by simp [hx]))⟩

theorem NumAt.takes_canon {n : Num} {g : Bool} (h : NumAt n g false false 0) {l : List UInt8} (hl : Canon l) : n.takes l := by
  obtain ⟨h1, h2, h3⟩ := hl
  match l, h2 with
  | b :: l, _ =>
    obtain ⟨i1, i2, i3⟩ := h.digit (h1 b (by simp))
    refine ⟨i2, i3, ?_⟩
    by_cases hb : b = 48
    · subst hb
      have := h3 rfl
      simp only [List.cons.injEq, true_and] at this
      subst this
      trivial
    · have hz : ((b.toNat : Int) == 48) = false := by
        rw [beq_eq_false_iff_ne]
        intro he
        apply hb
        apply UInt8.toNat_inj.1
        have : b.toNat = 48 := by omega
        exact this
      rw [hz] at i1
      exact NumAt.takes l (by simpa using i1) (fun x hx => h1 x (by simp [hx]))

theorem takes_signed (g : Bool) {l : List UInt8} (hl : Canon l) : Num.new.takes (signed g l) := by
  cases g
  · exact NumAt.new.takes_canon hl
  · obtain ⟨s1, s2, s3⟩ := NumAt.new.sign
    exact ⟨s2, s3, s1.takes_canon hl⟩

theorem takes_print (g : Bool) (m : Nat) : Num.new.takes (printW g m) := by
  rw [printW_signed]; exact takes_signed g (dec_canon _).1

/-- what a printed number leaves -/
theorem at_print (g : Bool) (m : Nat) : ∃ z, NumAt (Num.new.ran (printW g m)) g true z (if g = true then m + 1 else m) := by
  rw [printW_signed]
  obtain ⟨h1, h2, _⟩ := dec_canon (if g = true then m + 1 else m)
  obtain ⟨z, h3, _⟩ := parse_signed g h1 []
  rw [h2] at h3
  exact ⟨z, h3⟩

/-- a number, and at its end a byte that does not go on -/
theorem end_print (g : Bool) (m : Nat) (hm : m < 18446744073709551616) {b : Int} (hd : isDig b = false) (hb : ¬ (b = 46 ∨ b = 101 ∨ b = 69)) :
    (Num.new.ran (printW g m)).after b = Num.new.ran (printW g m) ∧ (Num.new.ran (printW g m)).took b = false ∧ (Num.new.ran (printW g m)).e = 0 ∧ (Num.new.ran (printW g m)).result = (g, m, 0) := by
  obtain ⟨z, h⟩ := at_print g m
  obtain ⟨h1, h2⟩ := h.stop hd hb
  refine ⟨h1, h2, h.e, ?_⟩
  have h3 := parse_print g m hm
  have h4 : parseFrom Num.new (printW g m) = (Num.new.ran (printW g m)).result := by
    have hc := (dec_canon (if g = true then m + 1 else m)).1
    obtain ⟨z', _, h5⟩ := parse_signed g hc []
    rw [List.append_nil] at h5
    rw [printW_signed, h5]; rfl
  rw [← h4, h3]

/-- a point or an exponent behind a number -/
theorem float_print (g : Bool) (m : Nat) {c : UInt8} (hc : c = 46 ∨ c = 101 ∨ c = 69) (t : List UInt8) : parseFrom Num.new (printW g m ++ c :: t) = (false, 0, 6) := by
  obtain ⟨h1, _, _⟩ := dec_canon (if g = true then m + 1 else m)
  obtain ⟨z, h2, h3⟩ := parse_signed g h1 (c :: t)
  have hb : (c.toNat : Int) = 46 ∨ (c.toNat : Int) = 101 ∨ (c.toNat : Int) = 69 := by
    rcases hc with rfl | rfl | rfl
    · exact Or.inl rfl
    · exact Or.inr (Or.inl rfl)
    · exact Or.inr (Or.inr rfl)
  obtain ⟨h4, _⟩ := h2.float hb
  rw [printW_signed, h3, parse_err (by rw [h4]; decide), h4]

theorem float_none {c : UInt8} (hc : c = 46 ∨ c = 101 ∨ c = 69) (t : List UInt8) : parseFrom Num.new (c :: t) = (false, 0, 2) ∧ parseFrom Num.new (45 :: c :: t) = (false, 0, 2) := by
  have hd : isDig c.toNat = false := by rcases hc with rfl | rfl | rfl <;> rfl
  have h45 : ¬ (c.toNat : Int) = 45 := by rcases hc with rfl | rfl | rfl <;> decide
  constructor
  · obtain ⟨h4, _⟩ := NumAt.new.none hd (by simp [h45])
    rw [parse_err (by rw [h4]; decide), h4]
  · obtain ⟨s1, s2, s3⟩ := NumAt.new.sign
    obtain ⟨h4, _⟩ := s1.none hd (by simp)
    rw [parse_took (b := 45) s2 s3, parse_err (b := c) (n := Num.new.after ((45 : UInt8).toNat)) (by show (Num.after (Num.new.after 45) _).e ≠ 0; rw [h4]; decide)]
    show (false, 0, (Num.after (Num.new.after 45) _).e) = _
    rw [h4]

/-! ### the greatest, the least -/

def topDigits : List UInt8 := [49, 56, 52, 52, 54, 55, 52, 52, 48, 55, 51, 55, 48, 57, 53, 53, 49, 54, 49]

theorem range_last (g : Bool) (d : Nat) (hd : d ≤ 9) : parseFrom Num.new (signed g (topDigits ++ [UInt8.ofNat (48 + d)])) = resOf g (18446744073709551610 + d) := by
  have hc : Canon (topDigits ++ [UInt8.ofNat (48 + d)]) := by
    refine ⟨fun b hb => ?_, by simp, fun h => ?_⟩
    · rcases List.mem_append.1 hb with hb | hb
      · exact (by decide : ∀ b ∈ topDigits, isDig b.toNat = true) b hb
      · rw [List.mem_singleton] at hb; subst hb; exact isDig_of hd
    · rw [head_app (by decide)] at h; exact absurd h (by decide)
  rw [parse_exact g hc, numOf_append]
  have h1 : numOf 0 topDigits = 1844674407370955161 := by decide
  rw [h1]
  show resOf g (1844674407370955161 * 10 + ((UInt8.ofNat (48 + d)).toNat - 48)) = _
  rw [digOf_toNat hd]
  congr 1; omega

theorem range_more (g : Bool) : parseFrom Num.new (signed g (topDigits ++ [48, 48])) = (false, 0, 7) := by
  have hc : Canon (topDigits ++ [48, 48]) := ⟨by unfold allDig; decide, by simp, fun h => absurd h (by decide)⟩
  rw [parse_exact g hc]
  have h1 : numOf 0 (topDigits ++ [48, 48]) = 184467440737095516100 := by decide
  rw [h1]
  cases g <;> decide

theorem range_zero (g : Bool) (d : Nat) (hd : d ≤ 9) : parseFrom Num.new (signed g [48, UInt8.ofNat (48 + d)]) = (false, 0, 2) := by
  have hdig := isDig_of hd
  have key : ∀ n : Num, NumAt n g false false 0 → parseFrom n [48, UInt8.ofNat (48 + d)] = (false, 0, 2) := by
    intro n h
    obtain ⟨i1, i2, i3⟩ := h.digit (b := ((48 : UInt8).toNat : Int)) rfl
    have i1' : NumAt (n.after ((48 : UInt8).toNat : Int)) g true true (0 * 10 + (((48 : UInt8).toNat : Int) - 48).toNat) := i1
    rw [parse_took i2 i3, parse_err (by rw [(i1'.zeroDigit hdig).1]; decide), (i1'.zeroDigit hdig).1]
  cases g
  · exact key _ NumAt.new
  · obtain ⟨s1, s2, s3⟩ := NumAt.new.sign
    show parseFrom Num.new ((45 : UInt8) :: _) = _
    rw [parse_took (b := 45) s2 s3]
    exact key _ s1

theorem sign_dec (v : Nat) : parseFrom Num.new (45 :: Lib.decDigits v) = resOf true v := by
  obtain ⟨h1, h2, _⟩ := dec_canon v
  have := parse_exact true h1
  rw [h2] at this
  exact this

/-! ### which is less -/

theorem pow_succ10 (k : Nat) : 10 ^ (k + 1) = 10 * 10 ^ k := by rw [Nat.pow_succ]; omega

theorem numOf_bounds : ∀ (l : List UInt8), allDig l → ∀ v, v * 10 ^ l.length ≤ numOf v l ∧ numOf v l < (v + 1) * 10 ^ l.length
  | [], _, v => by
    show v * 10 ^ 0 ≤ v ∧ v < (v + 1) * 10 ^ 0
    simp
  | b :: l, hd, v => by
    have hb : 48 ≤ (b.toNat : Int) ∧ (b.toNat : Int) ≤ 57 := by simpa [isDig] using hd b (by simp)
    obtain ⟨h1, h2⟩ := numOf_bounds l (fun x hx => hd x (by simp [hx])) (v * 10 + (b.toNat - 48))
    have e : numOf v (b :: l) = numOf (v * 10 + (b.toNat - 48)) l := rfl
    rw [e, List.length_cons, pow_succ10]
    have hp : 1 ≤ 10 ^ l.length := Nat.one_le_pow _ _ (by decide)
    have e1 : v * (10 * 10 ^ l.length) = (v * 10) * 10 ^ l.length := by rw [Nat.mul_assoc]
    have e2 : (v + 1) * (10 * 10 ^ l.length) = ((v + 1) * 10) * 10 ^ l.length := by rw [Nat.mul_assoc]
    rw [e1, e2]
    exact ⟨Nat.le_trans (Nat.mul_le_mul_right _ (by omega)) h1, Nat.lt_of_lt_of_le h2 (Nat.mul_le_mul_right _ (by omega))⟩

theorem less_same : ∀ (l m : List UInt8), l.length = m.length → allDig l → allDig m → ∀ v, Op.bytesLess l m = decide (numOf v l < numOf v m)
  | [], [], _, _, _, v => by simp [Op.bytesLess]
  | b :: l, c :: m, hlen, hl, hm, v => by
    have hb : 48 ≤ (b.toNat : Int) ∧ (b.toNat : Int) ≤ 57 := by simpa [isDig] using hl b (by simp)
    have hc : 48 ≤ (c.toNat : Int) ∧ (c.toNat : Int) ≤ 57 := by simpa [isDig] using hm c (by simp)
    have hl' : allDig l := fun x hx => hl x (by simp [hx])
    have hm' : allDig m := fun x hx => hm x (by simp [hx])
    have hlen' : l.length = m.length := by simpa using hlen
    obtain ⟨a1, a2⟩ := numOf_bounds l hl' (v * 10 + (b.toNat - 48))
    obtain ⟨b1, b2⟩ := numOf_bounds m hm' (v * 10 + (c.toNat - 48))
    rw [← hlen'] at b1 b2
    have e1 : numOf v (b :: l) = numOf (v * 10 + (b.toNat - 48)) l := rfl
    have e2 : numOf v (c :: m) = numOf (v * 10 + (c.toNat - 48)) m := rfl
    rw [e1, e2]
    simp only [Op.bytesLess]
    rcases Nat.lt_trichotomy b.toNat c.toNat with h | h | h
    · have hlt : b < c := UInt8.lt_iff_toNat_lt.2 h
      have hle := Nat.mul_le_mul_right (10 ^ l.length) (show v * 10 + (b.toNat - 48) + 1 ≤ v * 10 + (c.toNat - 48) by omega)
      simp only [hlt, decide_true, Bool.true_or]
      symm
      rw [decide_eq_true_eq]
      omega
    · have : b = c := UInt8.toNat_inj.1 h
      subst this
      rw [← less_same l m hlen' hl' hm']
      simp
    · have hlt : ¬ b < c := fun hh => by have := UInt8.lt_iff_toNat_lt.1 hh; omega
      have hne : (b == c) = false := by rw [beq_eq_false_iff_ne]; intro hh; subst hh; omega
      have hle := Nat.mul_le_mul_right (10 ^ l.length) (show v * 10 + (c.toNat - 48) + 1 ≤ v * 10 + (b.toNat - 48) by omega)
      simp only [hlt, hne, decide_false, Bool.false_and, Bool.or_self]
      symm
      rw [decide_eq_false_iff_not]
      omega

theorem canon_short {l m : List UInt8} (hl : Canon l) (hm : Canon m) (h : l.length < m.length) : numOf 0 l < numOf 0 m := by
  obtain ⟨_, a2⟩ := numOf_bounds l hl.1 0
  obtain ⟨h1, h2, h3⟩ := hm
  match m, h2 with
  | c :: m, _ =>
    have hc : 48 ≤ (c.toNat : Int) ∧ (c.toNat : Int) ≤ 57 := by simpa [isDig] using h1 c (by simp)
    have hlp : 0 < l.length := List.length_pos_iff.2 hl.2.1
    have hc48 : c.toNat ≠ 48 := by
      intro hh
      have hcc : c = 48 := UInt8.toNat_inj.1 hh
      subst hcc
      have := congrArg List.length (h3 rfl)
      simp at this h
      subst this
      exact hl.2.1 (by simpa using h)
    obtain ⟨b1, _⟩ := numOf_bounds m (fun x hx => h1 x (by simp [hx])) (0 * 10 + (c.toNat - 48))
    have e2 : numOf 0 (c :: m) = numOf (0 * 10 + (c.toNat - 48)) m := rfl
    rw [e2]
    have hp : 10 ^ l.length ≤ 10 ^ m.length := Nat.pow_le_pow_right (by decide) (by simp at h; omega)
    have hq := Nat.mul_le_mul_right (10 ^ m.length) (show 1 ≤ 0 * 10 + (c.toNat - 48) by omega)
    omega

/-- the shorter digits are the lesser number's; those of one length go by their bytes -/
theorem dec_less (a b : Nat) : (decide ((Lib.decDigits a).length < (Lib.decDigits b).length) || decide ((Lib.decDigits a).length = (Lib.decDigits b).length) && Op.bytesLess (Lib.decDigits a) (Lib.decDigits b)) = decide (a < b) := by
  obtain ⟨a1, a2, _⟩ := dec_canon a
  obtain ⟨b1, b2, _⟩ := dec_canon b
  rcases Nat.lt_trichotomy (Lib.decDigits a).length (Lib.decDigits b).length with h | h | h
  · have := canon_short a1 b1 h
    rw [a2, b2] at this
    simp [h, this]
  · have := less_same _ _ h a1.1 b1.1 0
    rw [a2, b2] at this
    simp [h, this]
  · have := canon_short b1 a1 h
    rw [a2, b2] at this
    have h1 : ¬ (Lib.decDigits a).length < (Lib.decDigits b).length := by omega
    have h2 : ¬ (Lib.decDigits a).length = (Lib.decDigits b).length := by omega
    have h3 : ¬ a < b := by omega
    simp [h1, h2, h3]
end Go.Tru
