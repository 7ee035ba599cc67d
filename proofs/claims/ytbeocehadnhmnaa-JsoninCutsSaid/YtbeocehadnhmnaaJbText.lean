/-
  lexer.Lexer, plainly: a string that is written; a number's digits; a word.
  jsonin.All by way of the Lexer's tokens.
  Words with blanks between them, plainly: the tokens are the same.
  Numbers in an array: what jsonin.All tells.
  cborin.Core as plain data: what readers of items with lengths have in common.
  A document's parts, handed to a Writer one by one, plainly: each may come; what is open behind each.
  A document's parts as JSON, plainly: its text, its tokens; what the Parser tells of it.
  A document, written as JSON with whatever blanks, is read as it was.
  JSON that is cut, or has a byte more behind it, plainly.
-/
import Derived.Test.YtbeocehadnhmnaaLexModel
import Derived.Test.YtbeocehadnhmnaaJsModel
import Derived.Test.YtbeocehadnhmnaaJbDoc
import Derived.Test.YtbeocehadnhmnaaEv
import Derived.Test.YtbeocehadnhmnaaChk
import Derived.Test.YtbeocehadnhmnaaStack
import Derived.Test.YtbeocehadnhmnaaUtfPlain

namespace Go.Tru

/-! ### strings -/

/-- these bytes end no string and are no fault -/
def Rdr.Calm (r : Rdr) : List UInt8 → Prop
  | [] => True
  | x :: l => ((x.toNat : Int) ≠ 34 ∨ r.whole = false) ∧ (r.step x.toNat).1.e = 0 ∧ Rdr.Calm (r.step x.toNat).1 l

theorem Rdr.calm_append : ∀ (l m : List UInt8) (r : Rdr), r.Calm (l ++ m) ↔ r.Calm l ∧ (r.run l).1.Calm m
  | [], m, r => by simp [Rdr.Calm, Rdr.run]
  | x :: l, m, r => by simp [Rdr.Calm, Rdr.run, Rdr.calm_append l m, and_assoc]

theorem u8_lit {b c : UInt8} : b = c ↔ (b.toNat : Int) = c.toNat :=
  ⟨fun h => by rw [h], fun h => UInt8.toNat_inj.1 (by omega)⟩

theorem Rdr.calm_escB {r : Rdr} {c : Chk} (h : r.At c) (hc : c.High) {b : UInt8} (hb : (c.step b.toNat).bad = false) : r.Calm (escB b) := by
  obtain ⟨c0, st, rr, n, pr, e⟩ := r
  obtain ⟨h1, h2, h3, h4⟩ := h
  simp only at h1 h2 h3 h4
  subst h1 h2 h3 h4
  have hasc : b.toNat < 128 → c0.Clean := fun hl => ⟨hc.1, Chk.low_clean hc.1 (by omega) hc.2 hb⟩
  have s92 : c0.Clean → c0.step 92 = ⟨0, 128, 191, false⟩ := fun hcl => Chk.step_ascii hcl (by omega)
  have e1 : b.toNat < 128 → Rdr.step ⟨c0, 0, rr, n, 0, 0⟩ ((92 : UInt8).toNat : Int) = (⟨⟨0, 128, 191, false⟩, 1, rr, n, 0, 0⟩, []) := fun hl => by
    show Rdr.step _ 92 = _
    simp [Rdr.step, Rdr.plain, s92 (hasc hl)]
  have w1 : Rdr.whole ⟨⟨0, 128, 191, false⟩, 1, rr, n, 0, 0⟩ = false := by simp [Rdr.whole]
  have short : ∀ x : UInt8, b.toNat < 128 → x.toNat ≠ 117 → escOf x.toNat ≠ [] → Rdr.Calm ⟨c0, 0, rr, n, 0, 0⟩ [92, x] := by
    intro x hl hx hex
    have hx' : ¬ ((x.toNat : Int) = 117) := by omega
    have e2 : (Rdr.step ⟨⟨0, 128, 191, false⟩, 1, rr, n, 0, 0⟩ (x.toNat : Int)).1.e = 0 := by
      simp [Rdr.step, Rdr.behind, hx', hex]
    refine ⟨Or.inl (by decide), by rw [e1 hl], ?_⟩
    rw [e1 hl]
    exact ⟨Or.inr w1, e2, trivial⟩
  unfold escB
  split
  · rename_i h
    rcases h with rfl | rfl
    · exact short 34 (by decide) (by decide) (by decide)
    · exact short 92 (by decide) (by decide) (by decide)
  split
  · rename_i h; subst h; exact short 98 (by decide) (by decide) (by decide)
  split
  · rename_i h; subst h; exact short 102 (by decide) (by decide) (by decide)
  split
  · rename_i h; subst h; exact short 110 (by decide) (by decide) (by decide)
  split
  · rename_i h; subst h; exact short 114 (by decide) (by decide) (by decide)
  split
  · rename_i h; subst h; exact short 116 (by decide) (by decide) (by decide)
  split
  · rename_i h
    have hlt : b.toNat < 32 := (uint8_lt b 32 (by omega)).1 h
    have hcl := hasc (by omega)
    obtain ⟨d1, d1'⟩ := hexDig_of (n := b.toNat / 16) (by omega)
    obtain ⟨d2, d2'⟩ := hexDig_of (n := b.toNat % 16) (by omega)
    have e2 : Rdr.step ⟨⟨0, 128, 191, false⟩, 1, rr, n, 0, 0⟩ ((117 : UInt8).toNat : Int) = (⟨⟨0, 128, 191, false⟩, 2, 0, 0, 0, 0⟩, []) := by
      show Rdr.step _ 117 = _
      simp [Rdr.step, Rdr.behind]
    have e3 : Rdr.step ⟨⟨0, 128, 191, false⟩, 2, 0, 0, 0, 0⟩ ((48 : UInt8).toNat : Int) = (⟨⟨0, 128, 191, false⟩, 2, 0, 1, 0, 0⟩, []) := by
      show Rdr.step _ 48 = _
      simp [Rdr.step, Rdr.digit, hexOf]
    have e4 : Rdr.step ⟨⟨0, 128, 191, false⟩, 2, 0, 1, 0, 0⟩ ((48 : UInt8).toNat : Int) = (⟨⟨0, 128, 191, false⟩, 2, 0, 2, 0, 0⟩, []) := by
      show Rdr.step _ 48 = _
      simp [Rdr.step, Rdr.digit, hexOf]
    have e5 : Rdr.step ⟨⟨0, 128, 191, false⟩, 2, 0, 2, 0, 0⟩ ((hexDig (b.toNat / 16)).toNat : Int) = (⟨⟨0, 128, 191, false⟩, 2, ((b.toNat / 16 : Nat) : Int), 3, 0, 0⟩, []) := by
      unfold Rdr.step Rdr.digit
      simp only [d1]
      rw [if_neg (by simp), if_neg (by simp), if_neg (by simp), if_neg (by simp), if_neg (by omega), if_pos (by simp)]
      simp
    have e6 : (Rdr.step ⟨⟨0, 128, 191, false⟩, 2, ((b.toNat / 16 : Nat) : Int), 3, 0, 0⟩ ((hexDig (b.toNat % 16)).toNat : Int)).1.e = 0 := by
      unfold Rdr.step Rdr.digit
      simp only [d2]
      rw [if_neg (by simp), if_neg (by simp), if_neg (by simp), if_neg (by simp), if_neg (by omega), if_neg (by simp), if_neg (by simp), if_neg (by omega), if_neg (by omega)]
    have w2 : ∀ x y, Rdr.whole ⟨⟨0, 128, 191, false⟩, 2, x, y, 0, 0⟩ = false := fun x y => by simp [Rdr.whole]
    simp only [Rdr.Calm, e1 (by omega), e2, e3, e4, e5, e6, w1, w2]
    simp
  · rename_i n34 n8 n12 n10 n13 n9 n32
    have h32 : ¬ b.toNat < 32 := fun hh => n32 ((uint8_lt b 32 (by omega)).2 hh)
    have h34 : ¬ ((b.toNat : Int) = 34) := fun hh => n34 (Or.inl (u8_lit.2 hh))
    have h92 : ¬ ((b.toNat : Int) = 92) := fun hh => n34 (Or.inr (u8_lit.2 hh))
    have e1 : (Rdr.step ⟨c0, 0, rr, n, 0, 0⟩ (b.toNat : Int)).1.e = 0 := by
      unfold Rdr.step Rdr.plain
      rw [if_neg (by simp), if_neg (by simp), if_pos rfl, if_neg (by omega), if_neg (by simp [hb]), if_neg h92]
    exact ⟨Or.inl h34, e1, trivial⟩

theorem Rdr.calm_write : ∀ (l : List UInt8) {r : Rdr} {c : Chk}, r.At c → c.High → (c.run l).bad = false → r.Calm (writeOf l)
  | [], _, _, _, _, _ => trivial
  | b :: l, r, c, h, hc, hb => by
    have hb1 : (c.step b.toNat).bad = false := by
      cases hh : (c.step b.toNat).bad
      · rfl
      · rw [Chk.run_cons, Chk.run_bad hh, hh] at hb; exact absurd hb (by simp)
    have e : writeOf (b :: l) = escB b ++ writeOf l := rfl
    rw [e, Rdr.calm_append]
    exact ⟨Rdr.calm_escB h hc hb1, Rdr.calm_write l (Rdr.run_escB h hc hb1).1 (Chk.high_step hc hb1) (by rw [Chk.run_cons] at hb; exact hb)⟩

/-- one byte within a string -/
theorem Lex.step_in {L : Lex} (h0 : L.e = 0) (h1 : L.state = 1) {x : UInt8} (hx : (x.toNat : Int) ≠ 34 ∨ L.r.whole = false) (he : (L.r.step x.toNat).1.e = 0) :
    L.step x.toNat = ({ L with r := (L.r.step x.toNat).1, s := L.s ++ (L.r.step x.toNat).2, e := if 200 < (L.s ++ (L.r.step x.toNat).2).length then 5 else 0 }, []) := by
  have hn : ¬ ((x.toNat : Int) = 34 ∧ L.r.whole = true) := by
    rintro ⟨a, b⟩
    rcases hx with h | h
    · exact h a
    · rw [h] at b; cases b
  unfold Lex.step Lex.turn Lex.text
  rw [if_neg (by simp [h0]), if_pos h1, if_neg hn]
  simp only [he, true_and]
  split <;> rfl

/-- within a string: no token; too much text is an error -/
theorem Lex.run_in : ∀ (l : List UInt8) {L : Lex}, L.e = 0 → L.state = 1 → L.s.length ≤ 200 → L.r.Calm l →
    (L.run l).2 = [] ∧ ((L.run l).1.e = 5 ∧ 200 < (L.s ++ (L.r.run l).2).length ∨ (L.run l).1 = { L with r := (L.r.run l).1, s := L.s ++ (L.r.run l).2 } ∧ (L.s ++ (L.r.run l).2).length ≤ 200)
  | [], L, h0, h1, hs, hc => by simp [Lex.run, Rdr.run, hs]
  | x :: l, L, h0, h1, hs, hc => by
    obtain ⟨c1, c2, c3⟩ := hc
    have e1 := Lex.step_in h0 h1 c1 c2
    by_cases hl : 200 < (L.s ++ (L.r.step x.toNat).2).length
    · rw [if_pos hl] at e1
      have hb := Lex.run_bad (L := (L.step x.toNat).1) (by rw [e1]; simp) l
      have e2 : L.run (x :: l) = ((L.step x.toNat).1, []) := by
        show (((L.step x.toNat).1.run l).1, (L.step x.toNat).2 ++ ((L.step x.toNat).1.run l).2) = _
        rw [hb, e1]
        rfl
      rw [e2]
      refine ⟨rfl, Or.inl ⟨by rw [e1], ?_⟩⟩
      simp only [Rdr.run, List.length_append] at hl ⊢
      omega
    · rw [if_neg hl] at e1
      obtain ⟨i1, i2⟩ := Lex.run_in l (L := (L.step x.toNat).1) (by rw [e1]) (by rw [e1]; exact h1) (by rw [e1]; simp only []; omega) (by rw [e1]; exact c3)
      have e2 : L.run (x :: l) = (((L.step x.toNat).1.run l).1, (L.step x.toNat).2 ++ ((L.step x.toNat).1.run l).2) := rfl
      rw [e2, i1]
      refine ⟨by rw [e1]; rfl, ?_⟩
      rw [e1] at i2 ⊢
      simp only [Rdr.run, ← List.append_assoc] at i2 ⊢
      rcases i2 with ⟨a, b⟩ | ⟨a, b⟩
      · exact Or.inl ⟨a, b⟩
      · refine Or.inr ⟨?_, b⟩
        rw [a]
        simp [h0]

/-- a quote ahead of a string -/
theorem Lex.step_quote {L : Lex} (h0 : L.e = 0) (h1 : L.state = 0) : L.step 34 = ({ L with state := 1, r := Rdr.new, s := [] }, []) := by
  unfold Lex.step Lex.turn Lex.between
  rw [if_neg (by simp [h0]), if_neg (by rw [h1]; decide), if_neg (by rw [h1]; decide), if_neg (by rw [h1]; decide)]
  simp [isBlank, isMark, h0]

/-- .. behind it -/
theorem Lex.step_unquote {L : Lex} (h0 : L.e = 0) (h1 : L.state = 1) (hw : L.r.whole = true) : L.step 34 = ({ L with state := 0, s := [] }, [⟨115, ⟨L.s.toArray⟩, false, 0⟩]) := by
  unfold Lex.step Lex.turn Lex.text
  rw [if_neg (by simp [h0]), if_pos h1, if_pos ⟨rfl, hw⟩]
  simp [h0]

theorem Chk.high_run {c : Chk} (h : c.High) {l : List UInt8} (hb : (c.run l).bad = false) : (c.run l).High := by
  induction l generalizing c with
  | nil => exact h
  | cons b l ih =>
    have hb1 : (c.step b.toNat).bad = false := by
      cases hh : (c.step b.toNat).bad
      · rfl
      · rw [Chk.run_cons, Chk.run_bad hh, hh] at hb; exact absurd hb (by simp)
    exact ih (Chk.high_step h hb1) hb

theorem Rdr.at_new : Rdr.new.At Chk.zero := ⟨rfl, rfl, rfl, rfl⟩

theorem Rdr.at_whole {r : Rdr} {c : Chk} (h : r.At c) : r.whole = c.whole := by
  obtain ⟨h1, h2, h3, h4⟩ := h
  simp [Rdr.whole, h1, h2, h3, h4]

/-- A STRING: quote, a text that is UTF-8, written, quote: one token at the last byte; or, of a text too long, an error ahead of it. -/
theorem Lex.string_run {L : Lex} (h0 : L.e = 0) (h1 : L.state = 0) {l : List UInt8} (hu : utf8 l = true) :
    (L.run (34 :: writeOf l)).2 = [] ∧ ((L.run (34 :: writeOf l)).1.e = 5 ∧ 200 < l.length ∨
      l.length ≤ 200 ∧ ∃ r, (L.run (34 :: writeOf l)).1 = { L with state := 1, r := r, s := l } ∧ r.whole = true) := by
  have hw := Chk.clean_whole.1 hu
  have hcalm := Rdr.calm_write l Rdr.at_new Chk.high_zero hw.1
  obtain ⟨r1, r2⟩ := Rdr.run_write l Rdr.at_new Chk.high_zero hw.1
  have e1 := Lex.step_quote h0 h1
  obtain ⟨i1, i2⟩ := Lex.run_in (writeOf l) (L := { L with state := 1, r := Rdr.new, s := [] }) h0 rfl (by simp) hcalm
  have e2 : L.run (34 :: writeOf l) = ((Lex.run { L with state := 1, r := Rdr.new, s := [] } (writeOf l)).1, (Lex.run { L with state := 1, r := Rdr.new, s := [] } (writeOf l)).2) := by
    show (((L.step ((34 : UInt8).toNat : Int)).1.run (writeOf l)).1, (L.step ((34 : UInt8).toNat : Int)).2 ++ ((L.step ((34 : UInt8).toNat : Int)).1.run (writeOf l)).2) = _
    have : L.step ((34 : UInt8).toNat : Int) = L.step 34 := rfl
    rw [this, e1]
    rfl
  rw [e2]
  refine ⟨i1, ?_⟩
  simp only [List.nil_append, r2] at i2
  rcases i2 with ⟨a, b⟩ | ⟨a, b⟩
  · exact Or.inl ⟨a, b⟩
  · refine Or.inr ⟨b, _, a, ?_⟩
    rw [Rdr.at_whole r1]
    exact hu

/-! ### no error of a beginning where there is none of the whole -/

theorem Lex.run_e {L : Lex} {l m : List UInt8} (h : (L.run (l ++ m)).1.e = 0) : (L.run l).1.e = 0 := by
  rw [Lex.run_append] at h
  by_cases he : (L.run l).1.e = 0
  · exact he
  · rw [Lex.run_bad he] at h
    exact absurd h he

theorem Lex.run_none {L : Lex} {l m : List UInt8} (h : (L.run (l ++ m)).2 = []) : (L.run l).2 = [] := by
  rw [Lex.run_append] at h
  exact (List.append_eq_nil_iff.1 h).1

/-! ### numbers -/

/-- these bytes are of the number -/
def Num.Takes (n : Num) : List UInt8 → Prop
  | [] => True
  | x :: l => n.took x.toNat = true ∧ (n.after x.toNat).e = 0 ∧ Num.Takes (n.after x.toNat) l

theorem Num.takes_append : ∀ (l m : List UInt8) (n : Num), n.Takes (l ++ m) ↔ n.Takes l ∧ (n.ran l).Takes m
  | [], m, n => by simp [Num.Takes, Num.ran]
  | x :: l, m, n => by
    simp only [List.cons_append, Num.Takes, Num.takes_append l m, and_assoc]
    rfl

theorem NumAt.takes {g : Bool} : ∀ (l : List UInt8) {n : Num} {val : Nat} (_ : NumAt n g true false val) (_ : allDig l), n.Takes l
  | [], _, _, _, _ => trivial
  | b :: l, n, val, h, hd => by
    obtain ⟨h1, h2, h3⟩ := h.digit (hd b (by simp))
    exact ⟨h2, h3, NumAt.takes l (by simpa using h1) (fun x hx => hd x (by simp [hx]))⟩

theorem NumAt.takesCanon {n : Num} {g : Bool} (h : NumAt n g false false 0) {l : List UInt8} (hl : Canon l) : n.Takes l := by
  obtain ⟨h1, h2, h3⟩ := hl
  match l, h2 with
  | b :: l, _ =>
    obtain ⟨i1, i2, i3⟩ := h.digit (h1 b (by simp))
    refine ⟨i2, i3, ?_⟩
    by_cases hb : b = 48
    · subst hb
      have := h3 rfl
      simp only [List.cons.injEq, true_and] at this
      subst this
      trivial
    · have hz : ((b.toNat : Int) == 48) = false := by
        rw [beq_eq_false_iff_ne]
        intro he
        exact hb (u8_lit.2 (by rw [he]; rfl))
      rw [hz] at i1
      exact NumAt.takes l (by simpa using i1) (fun x hx => h1 x (by simp [hx]))

theorem takes_print (g : Bool) (m : Nat) : Num.new.Takes (printW g m) := by
  rw [printW_signed]
  obtain ⟨hc, _, _⟩ := dec_canon (if g = true then m + 1 else m)
  cases g
  · exact NumAt.new.takesCanon hc
  · obtain ⟨s1, s2, s3⟩ := NumAt.new.sign
    exact ⟨s2, s3, s1.takesCanon hc⟩

theorem at_print (g : Bool) {m : Nat} (hm : m < 18446744073709551616) : ∃ z, NumAt (Num.new.ran (printW g m)) g true z (if g = true then m + 1 else m) ∧ (Num.new.ran (printW g m)).result = (g, m, 0) := by
  rw [printW_signed]
  obtain ⟨hc, hn, _⟩ := dec_canon (if g = true then m + 1 else m)
  obtain ⟨z, h1, _⟩ := parse_signed g hc []
  rw [hn] at h1
  refine ⟨z, h1, ?_⟩
  rw [h1.result]
  cases g
  · simp [resOf, hm]
  · simp [resOf]; omega

/-- more bytes of a number -/
theorem Lex.run_num : ∀ (l : List UInt8) {L : Lex}, L.e = 0 → L.state = 2 → L.n.Takes l → L.run l = ({ L with n := L.n.ran l }, [])
  | [], _, _, _, _ => rfl
  | x :: l, L, h0, h1, ht => by
    obtain ⟨t1, t2, t3⟩ := ht
    have e1 : L.step x.toNat = ({ L with n := L.n.after x.toNat }, []) := by
      unfold Lex.step Lex.turn Lex.number
      rw [if_neg (by simp [h0]), if_neg (by rw [h1]; decide), if_neg (by rw [h1]; decide), if_pos h1, if_pos (Or.inl t1)]
      simp [t2, h0]
    show (((L.step x.toNat).1.run l).1, (L.step x.toNat).2 ++ ((L.step x.toNat).1.run l).2) = _
    rw [e1, Lex.run_num l (L := { L with n := L.n.after x.toNat }) h0 h1 t3]
    rfl

/-- A NUMBER's bytes: no token yet. -/
theorem Lex.run_print {L : Lex} (h0 : L.e = 0) (h1 : L.state = 0) (g : Bool) (m : Nat) : L.run (printW g m) = ({ L with state := 2, n := Num.new.ran (printW g m) }, []) := by
  have ht := takes_print g m
  have hf : ∃ x t, printW g m = x :: t ∧ ((x.toNat : Int) = 45 ∨ isDig x.toNat = true) := by
    rw [printW_signed]
    cases g
    · obtain ⟨⟨c1, c2, _⟩, _, _⟩ := dec_canon m
      match hd : Lib.decDigits m, c2 with
      | x :: t, _ => exact ⟨x, t, rfl, Or.inr (c1 x (by rw [hd]; simp))⟩
    · exact ⟨45, _, rfl, Or.inl rfl⟩
  obtain ⟨x, t, hx, hc⟩ := hf
  rw [hx] at ht ⊢
  obtain ⟨t1, t2, t3⟩ := ht
  have hne : isBlank x.toNat = false ∧ isMark x.toNat = false ∧ ¬ (x.toNat : Int) = 34 := by
    have : (x.toNat : Int) = 45 ∨ 48 ≤ (x.toNat : Int) ∧ (x.toNat : Int) ≤ 57 := by
      rcases hc with h | h
      · exact Or.inl h
      · exact Or.inr (by simpa [isDig] using h)
    refine ⟨?_, ?_, by omega⟩
    · simp only [isBlank, decide_eq_false_iff_not]; omega
    · simp only [isMark, decide_eq_false_iff_not]; omega
  have e1 : L.step x.toNat = ({ L with state := 2, n := Num.new.after x.toNat }, []) := by
    unfold Lex.step Lex.turn Lex.between
    rw [if_neg (by simp [h0]), if_neg (by rw [h1]; decide), if_neg (by rw [h1]; decide), if_neg (by rw [h1]; decide), if_neg (by simp [hne.1]), if_neg (by simp [hne.2.1]), if_neg hne.2.2, if_pos hc]
    simp [t2, h0]
  show (((L.step x.toNat).1.run t).1, (L.step x.toNat).2 ++ ((L.step x.toNat).1.run t).2) = _
  rw [e1, Lex.run_num t (L := { L with state := 2, n := Num.new.after x.toNat }) h0 rfl t3]
  rfl

/-- what ends a number -/
theorem Lex.step_num {L : Lex} (h0 : L.e = 0) (h1 : L.state = 2) {g z : Bool} {val m : Nat} (ha : NumAt L.n g true z val) (hr : L.n.result = (g, m, 0)) {b : Int} (hd : isDig b = false) (hb : ¬ (b = 46 ∨ b = 101 ∨ b = 69)) :
    L.step b = (({ L with state := 0 } : Lex).between b |>.1, if (({ L with state := 0 } : Lex).between b).1.e ≠ 0 then [] else ⟨110, ⟨#[]⟩, g, m⟩ :: (({ L with state := 0 } : Lex).between b).2) := by
  obtain ⟨s1, s2⟩ := ha.stop hd hb
  obtain ⟨state, r, s, n, rest, kind, e⟩ := L
  simp only at h0 h1 s1 s2 hr ha
  subst h0 h1
  have e0 := ha.e
  have he : Lex.ended ⟨2, r, s, n, rest, kind, 0⟩ = (⟨0, r, s, n, rest, kind, 0⟩, [⟨110, ⟨#[]⟩, g, m⟩]) := by
    unfold Lex.ended
    simp [hr]
  have e1 : Lex.number ⟨2, r, s, n, rest, kind, 0⟩ b = ((Lex.between ⟨0, r, s, n, rest, kind, 0⟩ b).1, ⟨110, ⟨#[]⟩, g, m⟩ :: (Lex.between ⟨0, r, s, n, rest, kind, 0⟩ b).2) := by
    unfold Lex.number
    simp only [s1, s2]
    rw [if_neg (by simp [e0]), he]
    simp
  have e2 : Lex.turn ⟨2, r, s, n, rest, kind, 0⟩ b = Lex.number ⟨2, r, s, n, rest, kind, 0⟩ b := by
    unfold Lex.turn
    rw [if_neg (by simp), if_neg (by simp), if_pos rfl]
  unfold Lex.step
  rw [if_neg (by simp), e2, e1]

/-- .. or the end of all -/
theorem Lex.fin_num {L : Lex} (h0 : L.e = 0) (h1 : L.state = 2) {g : Bool} {m : Nat} (hr : L.n.result = (g, m, 0)) : L.fin = ({ L with state := 0 }, [⟨110, ⟨#[]⟩, g, m⟩]) := by
  unfold Lex.fin Lex.ended
  rw [if_neg (by simp [h0, h1]), if_pos h1]
  simp [hr, h0]

theorem run_take {bs : List UInt8} {k : Nat} (hk : k < bs.length) (L : Lex) :
    L.run (bs.take (k + 1)) = (((L.run (bs.take k)).1.step bs[k].toNat).1, (L.run (bs.take k)).2 ++ ((L.run (bs.take k)).1.step bs[k].toNat).2) := by
  have h : bs.take (k + 1) = bs.take k ++ [bs[k]] := List.take_succ_eq_append_getElem hk
  rw [h, Lex.run_append, Lex.run_one]

theorem run_take' {bs : List UInt8} {k : Nat} {x : UInt8} (hk : bs[k]? = some x) (L : Lex) :
    L.run (bs.take (k + 1)) = (((L.run (bs.take k)).1.step x.toNat).1, (L.run (bs.take k)).2 ++ ((L.run (bs.take k)).1.step x.toNat).2) := by
  obtain ⟨h, rfl⟩ := List.getElem?_eq_some_iff.1 hk
  exact run_take h L

end Go.Tru

namespace Go.Tru

theorem js_value_l (p : Js) (t : Tok) (x : Lex) : ({ p with l := x } : Js).value t = ((p.value t).1, { (p.value t).2 with l := x }) := by
  unfold Js.value Js.fail Js.behind
  simp only []
  repeat' split
  all_goals rfl

theorem js_token_l (p : Js) (t : Tok) (x : Lex) : ({ p with l := x } : Js).token t = ((p.token t).1, { (p.token t).2 with l := x }) := by
  unfold Js.token
  by_cases hA : t.kind = 58 ∧ p.next = 4
  · rw [if_pos hA, if_pos hA]
  rw [if_neg hA, if_neg hA]
  by_cases hB : t.kind = 44 ∧ p.next = 5
  · rw [if_pos hB, if_pos hB]
  rw [if_neg hB, if_neg hB]
  have he : ({ p with l := x } : Js).ends t = p.ends t := rfl
  rw [he]
  by_cases hC : p.ends t = true
  · rw [if_pos hC, if_pos hC]
    unfold Js.behind
    rfl
  rw [if_neg hC, if_neg hC]
  by_cases hD : t.kind = 115 ∧ (p.next = 3 ∨ p.next = 2)
  · rw [if_pos hD, if_pos hD]
  rw [if_neg hD, if_neg hD]
  by_cases hE : p.next ≠ 0 ∧ p.next ≠ 1
  · rw [if_pos hE, if_pos hE]
    rfl
  · rw [if_neg hE, if_neg hE]
    exact js_value_l p t x

theorem js_toks_l (x : Lex) : ∀ (ts : List Tok) (p : Js), ({ p with l := x } : Js).toks ts = ((p.toks ts).1, { (p.toks ts).2 with l := x })
  | [], p => rfl
  | t :: ts, p => by
    unfold Js.toks
    rw [js_token_l]
    simp only []
    split
    · rfl
    · rw [js_toks_l x ts]

theorem js_toks_append : ∀ (a b : List Tok) (p : Js), (p.toks a).2.e = 0 → p.toks (a ++ b) = ((p.toks a).1 ++ ((p.toks a).2.toks b).1, ((p.toks a).2.toks b).2)
  | [], b, p, _ => rfl
  | t :: a, b, p, h => by
    simp only [List.cons_append, Js.toks] at h ⊢
    by_cases he : (p.token t).2.e = 0
    · rw [if_neg (by simp [he])] at h ⊢
      rw [if_neg (by simp [he])]
      rw [js_toks_append a b _ h]
      simp
    · rw [if_pos he] at h
      exact absurd h he

theorem js_toks_pre : ∀ (a : List Tok) {b : List Tok} {p : Js}, p.e = 0 → (p.toks (a ++ b)).2.e = 0 → (p.toks a).2.e = 0
  | [], b, p, hp, _ => hp
  | t :: a, b, p, hp, h => by
    simp only [List.cons_append, Js.toks] at h ⊢
    by_cases he : (p.token t).2.e = 0
    · rw [if_neg (by simp [he])] at h ⊢
      exact js_toks_pre a he h
    · rw [if_pos he] at h
      exact absurd h he

/-- bytes taken, up to the first error -/
def Js.eat (p : Js) : List UInt8 → List Ev × Js
  | [] => ([], p)
  | b :: l => if (p.step b.toNat).2.e ≠ 0 then p.step b.toNat else ((p.step b.toNat).1 ++ ((p.step b.toNat).2.eat l).1, ((p.step b.toNat).2.eat l).2)

theorem js_run_eat : ∀ (l : List UInt8) (p : Js), p.e = 0 → (p.eat l).2.e = 0 → p.run l = ((p.eat l).1 ++ (p.eat l).2.fin.1, (p.eat l).2.fin.2.e)
  | [], p, _, _ => rfl
  | b :: l, p, hp, h => by
    simp only [Js.eat, Js.run] at h ⊢
    by_cases he : (p.step b.toNat).2.e = 0
    · rw [if_neg (by simp [he])] at h ⊢
      rw [if_neg (by simp [he]), js_run_eat l _ he h]
      simp
    · rw [if_pos he] at h
      exact absurd h he

theorem js_step_toks {p : Js} (hp : p.e = 0) {b : Int} {L' : Lex} {ts : List Tok} (hl : p.l.step b = (L', ts)) (he : L'.e = 0) (ht : (p.toks ts).2.e = 0) : p.step b = ((p.toks ts).1, { (p.toks ts).2 with l := L' }) := by
  unfold Js.step
  rw [if_neg (by simp [hp]), hl]
  unfold Js.parts
  simp only []
  rw [js_toks_l]
  simp only []
  rw [if_neg (by simp [ht]), he]
  refine Prod.ext rfl ?_
  generalize (p.toks ts).2 = q at ht
  cases q
  simp only at ht
  subst ht
  rfl

/-- without an error the Parser tells what the tokens tell -/
theorem js_eat_toks : ∀ (l : List UInt8) (p : Js) (L' : Lex) (ts : List Tok), p.e = 0 → p.l.run l = (L', ts) → L'.e = 0 → (p.toks ts).2.e = 0 → p.eat l = ((p.toks ts).1, { (p.toks ts).2 with l := L' })
  | [], p, L', ts, _, hr, _, _ => by
    simp only [Lex.run, Prod.mk.injEq] at hr
    obtain ⟨rfl, rfl⟩ := hr
    rfl
  | b :: l, p, L', ts, hp, hr, he, ht => by
    obtain ⟨⟨L1, t1⟩, h1⟩ : ∃ r, p.l.step b.toNat = r := ⟨_, rfl⟩
    obtain ⟨⟨L2, t2⟩, h2⟩ : ∃ r, L1.run l = r := ⟨_, rfl⟩
    have hr' : p.l.run (b :: l) = (L2, t1 ++ t2) := by
      show (((p.l.step b.toNat).1.run l).1, (p.l.step b.toNat).2 ++ ((p.l.step b.toNat).1.run l).2) = _
      rw [h1]
      simp only []
      rw [h2]
    rw [hr'] at hr
    simp only [Prod.mk.injEq] at hr
    obtain ⟨rfl, rfl⟩ := hr
    have he1 : L1.e = 0 := by
      have := Lex.run_e (L := p.l) (l := [b]) (m := l) (by show (p.l.run (b :: l)).1.e = 0; rw [hr']; exact he)
      simpa [Lex.run, h1] using this
    have ht1 := js_toks_pre t1 hp ht
    have hst := js_step_toks hp h1 he1 ht1
    have hap := js_toks_append t1 t2 p ht1
    rw [hap] at ht
    simp only at ht
    have ih := js_eat_toks l { (p.toks t1).2 with l := L1 } L2 t2 ht1 h2 he (by rw [js_toks_l L1 t2 (p.toks t1).2]; exact ht)
    simp only [Js.eat]
    rw [hst]
    simp only []
    rw [if_neg (by simp [ht1]), ih, js_toks_l L1 t2 (p.toks t1).2, hap]

/-- .. all of it: bytes whose tokens end the document, and the Lexer at its rest -/
theorem jsAll_toks {s : List UInt8} {d : Int} (hd : 1 ≤ d ∧ d ≤ 16) {L' : Lex} {ts : List Tok} (hr : Lex.new.run s = (L', ts)) (he : L'.e = 0) {tf : List Tok} {L2 : Lex} (hf : L'.fin = (L2, tf)) (he2 : L2.e = 0)
    (ht : ((Js.new d).toks (ts ++ tf)).2.e = 0) (hn : ((Js.new d).toks (ts ++ tf)).2.next = 6) : jsAll s d = (((Js.new d).toks (ts ++ tf)).1, 0) := by
  unfold jsAll
  rw [if_neg (by omega)]
  have ht1 := js_toks_pre ts rfl ht
  have hap := js_toks_append ts tf (Js.new d) ht1
  have hE := js_eat_toks s (Js.new d) L' ts rfl hr he ht1
  rw [js_run_eat s _ rfl (by rw [hE]; exact ht1), hE]
  rw [hap] at ht hn ⊢
  simp only at ht hn ⊢
  generalize (Js.new d).toks ts = q at ht hn ht1 ⊢
  have hpz : Js.parts { q.2 with l := L2 } tf L2.e = ((q.2.toks tf).1, { (q.2.toks tf).2 with l := L2, e := 0 }) := by
    unfold Js.parts
    rw [js_toks_l L2 tf q.2]
    simp only []
    rw [if_neg (by simp [ht]), he2]
  have hfin : Js.fin { q.2 with l := L' } = ((q.2.toks tf).1, { (q.2.toks tf).2 with l := L2, e := 0 }) := by
    unfold Js.fin
    rw [if_neg (by simp [ht1])]
    simp only [hf]
    have hpz' : Js.parts { l := L2, depth := q.2.depth, maps := q.2.maps, next := q.2.next, e := q.2.e } tf L2.e = ((q.2.toks tf).1, { (q.2.toks tf).2 with l := L2, e := 0 }) := hpz
    rw [hpz']
    simp only [hn]
    rw [if_neg (by simp)]
  rw [hfin]

end Go.Tru

namespace Go.Tru

def wordT : Nat → List UInt8
  | 0 => [123] | 1 => [125] | 2 => [91] | 3 => [93] | 4 => [58] | 5 => [44]
  | 6 => [34, 97, 32, 98, 34]
  | 7 => [116, 114, 117, 101]
  | 8 => [102, 97, 108, 115, 101]
  | 9 => [110, 117, 108, 108]
  | _ => [34, 34]

def tokT : Nat → Tok
  | 0 => Tok.of 123 | 1 => Tok.of 125 | 2 => Tok.of 91 | 3 => Tok.of 93 | 4 => Tok.of 58 | 5 => Tok.of 44
  | 6 => ⟨115, ⟨#[97, 32, 98]⟩, false, 0⟩
  | 7 => Tok.of 116
  | 8 => Tok.of 102
  | 9 => Tok.of 48
  | _ => ⟨115, ⟨#[]⟩, false, 0⟩

def sepT : Nat → List UInt8
  | 0 => [32] | 1 => [10] | 2 => [9, 13] | _ => []

/-- between two tokens -/
def Lex.Rest (L : Lex) : Prop := L.e = 0 ∧ L.state = 0

theorem run_cons (L : Lex) (b : UInt8) (l : List UInt8) : L.run (b :: l) = (((L.step b.toNat).1.run l).1, (L.step b.toNat).2 ++ ((L.step b.toNat).1.run l).2) := rfl

theorem step_mark {L : Lex} (h : L.Rest) {b : Int} (hk : isMark b = true) (hb : isBlank b = false) : L.step b = (L, [Tok.of b]) := by
  unfold Lex.step Lex.turn Lex.between
  rw [if_neg (by simp [h.1]), if_neg (by rw [h.2]; decide), if_neg (by rw [h.2]; decide), if_neg (by rw [h.2]; decide), if_neg (by simp [hb]), if_pos hk]
  simp [h.1]

theorem step_blank {L : Lex} (h : L.Rest) {b : Int} (hb : isBlank b = true) : L.step b = (L, []) := by
  unfold Lex.step Lex.turn Lex.between
  rw [if_neg (by simp [h.1]), if_neg (by rw [h.2]; decide), if_neg (by rw [h.2]; decide), if_neg (by rw [h.2]; decide), if_pos hb]
  simp [h.1]

/-- a string of ASCII without escapes -/
theorem run_str {L : Lex} (h : L.Rest) {l : List UInt8} (hu : utf8 l = true) (hl : l.length ≤ 200) (hw : writeOf l = l) :
    ∃ L', L.run (34 :: (l ++ [34])) = (L', [⟨115, ⟨l.toArray⟩, false, 0⟩]) ∧ L'.Rest := by
  obtain ⟨h1, h2⟩ := Lex.string_run h.1 h.2 hu
  rw [hw] at h1 h2
  rcases h2 with ⟨_, a⟩ | ⟨_, r, b, c⟩
  · omega
  · have e : (34 : UInt8) :: (l ++ [34]) = (34 :: l) ++ [34] := rfl
    rw [e, Lex.run_append, Lex.run_one, h1, b]
    have := Lex.step_unquote (L := { L with state := 1, r := r, s := l }) h.1 rfl c
    rw [show ((34 : UInt8).toNat : Int) = 34 from rfl, this]
    exact ⟨_, rfl, h.1, rfl⟩

theorem run_word {L : Lex} (h : L.Rest) {c : Int} {w : List UInt8} {x : UInt8} (hx : L.step x.toNat = ({ L with state := 3, rest := w, kind := c }, [])) :
    ∀ (p q : List UInt8), w = p ++ q → q ≠ [] → ∃ L', L.run (x :: w) = (L', [Tok.of c]) ∧ L'.Rest := by
  have key : ∀ (l : List UInt8) (M : Lex), M.e = 0 → M.state = 3 → M.kind = c → M.rest = l → l ≠ [] → ∃ L', M.run l = (L', [Tok.of c]) ∧ L'.Rest := by
    intro l
    induction l with
    | nil => intro _ _ _ _ _ h; exact absurd rfl h
    | cons y l ih =>
      intro M h0 h1 h2 h3 _
      by_cases hl : l = []
      · subst hl
        have e1 : M.step y.toNat = ({ M with rest := [], state := 0 }, [Tok.of M.kind]) := by
          unfold Lex.step Lex.turn Lex.word
          rw [if_neg (by simp [h0]), if_neg (by rw [h1]; decide), if_pos h1, h3]
          simp [h0]
        rw [Lex.run_one, e1, h2]
        exact ⟨_, rfl, h0, rfl⟩
      · have e1 : M.step y.toNat = ({ M with rest := l }, []) := by
          unfold Lex.step Lex.turn Lex.word
          rw [if_neg (by simp [h0]), if_neg (by rw [h1]; decide), if_pos h1, h3]
          simp [h0, hl]
        obtain ⟨L', i1, i2⟩ := ih { M with rest := l } h0 h1 h2 rfl hl
        refine ⟨L', ?_, i2⟩
        rw [run_cons, e1, i1]
        rfl
  intro p q hw hq
  obtain ⟨L', i1, i2⟩ := key w { L with state := 3, rest := w, kind := c } h.1 rfl rfl rfl (by rw [hw]; simp [hq])
  refine ⟨L', ?_, i2⟩
  rw [run_cons, hx, i1]
  rfl

theorem step_w {L : Lex} (h : L.Rest) {b : Int} (w : List UInt8) (c : Int) (hb : L.between b = ({ L with state := 3, rest := w, kind := c }, [])) : L.step b = ({ L with state := 3, rest := w, kind := c }, []) := by
  unfold Lex.step Lex.turn
  rw [if_neg (by simp [h.1]), if_neg (by rw [h.2]; decide), if_neg (by rw [h.2]; decide), if_neg (by rw [h.2]; decide), hb]
  simp [h.1]

theorem run_wordT {L : Lex} (h : L.Rest) : ∀ j, j < 11 → ∃ L', L.run (wordT j) = (L', [tokT j]) ∧ L'.Rest := by
  intro j hj
  match j, hj with
  | 0, _ => exact ⟨L, by show L.run [123] = _; rw [Lex.run_one]; exact step_mark h (by decide) (by decide), h⟩
  | 1, _ => exact ⟨L, by show L.run [125] = _; rw [Lex.run_one]; exact step_mark h (by decide) (by decide), h⟩
  | 2, _ => exact ⟨L, by show L.run [91] = _; rw [Lex.run_one]; exact step_mark h (by decide) (by decide), h⟩
  | 3, _ => exact ⟨L, by show L.run [93] = _; rw [Lex.run_one]; exact step_mark h (by decide) (by decide), h⟩
  | 4, _ => exact ⟨L, by show L.run [58] = _; rw [Lex.run_one]; exact step_mark h (by decide) (by decide), h⟩
  | 5, _ => exact ⟨L, by show L.run [44] = _; rw [Lex.run_one]; exact step_mark h (by decide) (by decide), h⟩
  | 6, _ => exact run_str h (l := [97, 32, 98]) (by decide +kernel) (by decide) (by decide)
  | 7, _ => exact run_word h (x := 116) (w := [114, 117, 101]) (c := 116) (step_w h _ _ (by simp [Lex.between, isBlank, isMark, isDig])) [] [114, 117, 101] rfl (by simp)
  | 8, _ => exact run_word h (x := 102) (w := [97, 108, 115, 101]) (c := 102) (step_w h _ _ (by simp [Lex.between, isBlank, isMark, isDig])) [] [97, 108, 115, 101] rfl (by simp)
  | 9, _ => exact run_word h (x := 110) (w := [117, 108, 108]) (c := 48) (step_w h _ _ (by simp [Lex.between, isBlank, isMark, isDig])) [] [117, 108, 108] rfl (by simp)
  | 10, _ => exact run_str h (l := []) (by decide +kernel) (by decide) (by decide)

theorem run_sepT {L : Lex} (h : L.Rest) : ∀ j, L.run (sepT j) = (L, []) := by
  intro j
  match j with
  | 0 => show L.run [32] = _; rw [Lex.run_one]; exact step_blank h (by decide)
  | 1 => show L.run [10] = _; rw [Lex.run_one]; exact step_blank h (by decide)
  | 2 =>
    show L.run [9, 13] = _
    rw [run_cons, step_blank h (b := ((9 : UInt8).toNat : Int)) (by decide), Lex.run_one, step_blank h (by decide)]
    rfl
  | n + 3 => rfl

def idxT (x : Int) : Nat := (x.tmod 11 % 11).toNat
theorem idxT_lt (x : Int) : idxT x < 11 := by unfold idxT; omega
def b3 (x : Int) : Nat := (x % 4).toNat

/-- the words without blanks -/
def aT (xs : List Int) : List UInt8 := xs.flatMap fun x => wordT (idxT x)
/-- .. with them -/
def bT : List Int → List Int → List UInt8
  | [], _ => []
  | x :: xs, [] => wordT (idxT x) ++ bT xs []
  | x :: xs, b :: bs => wordT (idxT x) ++ (sepT (b3 b) ++ bT xs bs)

theorem aT_take {xs : List Int} {k : Nat} {x : Int} (h : xs[k]? = some x) : aT (xs.take (k + 1)) = aT (xs.take k) ++ wordT (idxT x) := by
  obtain ⟨hk, rfl⟩ := List.getElem?_eq_some_iff.1 h
  have e : xs.take (k + 1) = xs.take k ++ [xs[k]] := List.take_succ_eq_append_getElem hk
  unfold aT
  rw [e, List.flatMap_append]
  simp

theorem bT_take : ∀ (k : Nat) {xs bs : List Int} {x : Int}, xs[k]? = some x → bT (xs.take (k + 1)) (bs.take (k + 1)) = bT (xs.take k) (bs.take k) ++ (wordT (idxT x) ++ match bs[k]? with | some b => sepT (b3 b) | none => [])
  | 0, x :: xs, [], _, h => by
    simp only [List.getElem?_cons_zero, Option.some.injEq] at h
    subst h
    simp [bT]
  | 0, x :: xs, b :: bs, _, h => by
    simp only [List.getElem?_cons_zero, Option.some.injEq] at h
    subst h
    simp [bT]
  | k + 1, x :: xs, [], _, h => by
    have := bT_take k (xs := xs) (bs := []) h
    simp only [List.take_nil, List.getElem?_nil] at this
    simp only [List.take_succ_cons, List.take_nil, bT, List.getElem?_nil]
    rw [this]
    simp
  | k + 1, x :: xs, b :: bs, _, h => by
    have := bT_take k (xs := xs) (bs := bs) h
    simp only [List.take_succ_cons, bT, List.getElem?_cons_succ]
    rw [this]
    simp
  | 0, [], _, _, h => by simp at h
  | k + 1, [], _, _, h => by simp at h

theorem wordT_len : ∀ j, (wordT j).length ≤ 5
  | 0 | 1 | 2 | 3 | 4 | 5 | 6 | 7 | 8 | 9 => by decide
  | _ + 10 => by show 2 ≤ 5; omega
theorem sepT_len : ∀ j, (sepT j).length ≤ 2
  | 0 | 1 | 2 => by decide
  | _ + 3 => by show 0 ≤ 2; omega

theorem aT_len (xs : List Int) : (aT xs).length ≤ xs.length * 5 := by
  unfold aT
  induction xs with
  | nil => simp
  | cons x xs ih =>
    have := wordT_len (idxT x)
    rw [List.flatMap_cons, List.length_append, List.length_cons]
    omega

theorem bT_len : ∀ (xs bs : List Int), (bT xs bs).length ≤ xs.length * 7
  | [], _ => by simp [bT]
  | x :: xs, [] => by
    have := wordT_len (idxT x)
    have := bT_len xs []
    simp only [bT, List.length_append, List.length_cons]
    omega
  | x :: xs, b :: bs => by
    have := wordT_len (idxT x)
    have := sepT_len (b3 b)
    have := bT_len xs bs
    simp only [bT, List.length_append, List.length_cons]
    omega

/-- the tokens -/
def toksT (xs : List Int) : List Tok := xs.map fun x => tokT (idxT x)

theorem run_aT : ∀ (xs : List Int) {L : Lex}, L.Rest → ∃ L', L.run (aT xs) = (L', toksT xs) ∧ L'.Rest
  | [], L, h => ⟨L, rfl, h⟩
  | x :: xs, L, h => by
    obtain ⟨L1, i1, i2⟩ := run_wordT h (idxT x) (idxT_lt x)
    obtain ⟨L2, j1, j2⟩ := run_aT xs i2
    refine ⟨L2, ?_, j2⟩
    have e : aT (x :: xs) = wordT (idxT x) ++ aT xs := rfl
    rw [e, Lex.run_append, i1, j1]
    rfl

theorem run_bT : ∀ (xs bs : List Int) {L : Lex}, L.Rest → ∃ L', L.run (bT xs bs) = (L', toksT xs) ∧ L'.Rest
  | [], _, L, h => ⟨L, rfl, h⟩
  | x :: xs, [], L, h => by
    obtain ⟨L1, i1, i2⟩ := run_wordT h (idxT x) (idxT_lt x)
    obtain ⟨L2, j1, j2⟩ := run_bT xs [] i2
    refine ⟨L2, ?_, j2⟩
    rw [bT, Lex.run_append, i1, j1]
    rfl
  | x :: xs, b :: bs, L, h => by
    obtain ⟨L1, i1, i2⟩ := run_wordT h (idxT x) (idxT_lt x)
    obtain ⟨L2, j1, j2⟩ := run_bT xs bs i2
    refine ⟨L2, ?_, j2⟩
    rw [bT, Lex.run_append, i1, Lex.run_append, run_sepT i2, j1]
    rfl

/-- each byte of such a text -/
theorem rest_prefix {T : List UInt8} {ts : List Tok} {L' : Lex} (h : Lex.new.run T = (L', ts)) (hr : L'.Rest) (k : Nat) : (Lex.new.run (T.take k)).1.e = 0 ∧ (Lex.new.run (T.take k)).2.length ≤ ts.length := by
  have he : T.take k ++ T.drop k = T := List.take_append_drop _ _
  constructor
  · refine Lex.run_e (m := T.drop k) ?_
    rw [he, h]
    exact hr.1
  · have := Lex.run_append Lex.new (T.take k) (T.drop k)
    rw [he, h] at this
    have h2 := congrArg (fun r => r.2.length) this
    simp only [List.length_append] at h2
    omega
end Go.Tru

namespace Go.Tru

def numT (w : Bool × Nat) : Tok := ⟨110, ⟨#[]⟩, w.1, w.2⟩

theorem rest_num {L : Lex} (h : L.Rest) (w : Bool × Nat) (hm : w.2 < 18446744073709551616) {c : UInt8} (hc : isMark c.toNat = true) (hb : isBlank c.toNat = false) (hd : isDig c.toNat = false) (hx : ¬ ((c.toNat : Int) = 46 ∨ (c.toNat : Int) = 101 ∨ (c.toNat : Int) = 69)) :
    ∃ L', L.run (printW w.1 w.2 ++ [c]) = (L', [numT w, Tok.of c.toNat]) ∧ L'.Rest := by
  obtain ⟨z, h1, h2⟩ := at_print w.1 hm
  rw [Lex.run_append, Lex.run_one, Lex.run_print h.1 h.2]
  simp only []
  rw [Lex.step_num (L := { L with state := 2, n := Num.new.ran (printW w.1 w.2) }) h.1 rfl h1 h2 hd hx]
  have : Lex.between { L with state := 0, n := Num.new.ran (printW w.1 w.2) } c.toNat = ({ L with state := 0, n := Num.new.ran (printW w.1 w.2) }, [Tok.of c.toNat]) := by
    unfold Lex.between; rw [if_neg (by simp [hb]), if_pos hc]
  simp only [this]
  refine ⟨{ L with state := 0, n := Num.new.ran (printW w.1 w.2) }, ?_, h.1, rfl⟩
  rw [if_neg (by simp [h.1])]
  rfl

/-- blanks between two tokens -/
theorem rest_blanks {L : Lex} (h : L.Rest) : ∀ (l : List UInt8), (∀ x ∈ l, isBlank x.toNat = true) → L.run l = (L, [])
  | [], _ => rfl
  | x :: l, hb => by
    rw [run_cons, step_blank h (hb x (List.mem_cons_self ..))]
    simp only []
    rw [rest_blanks h l (fun y hy => hb y (List.mem_cons_of_mem _ hy))]
    rfl

def numsPre (bl : Nat → List UInt8) (ws : Nat → Bool × Nat) : Nat → List UInt8
  | 0 => [91]
  | k + 1 => numsPre bl ws k ++ (if k = 0 then [] else [44]) ++ bl k ++ printW (ws k).1 (ws k).2

def numsDone (ws : Nat → Bool × Nat) : Nat → List Tok
  | 0 => [Tok.of 91]
  | k + 1 => numsDone ws k ++ (if k = 0 then [] else [Tok.of 44]) ++ [numT (ws k)]

theorem nums_run (bl : Nat → List UInt8) (ws : Nat → Bool × Nat) (n : Nat) (hb : ∀ k, k < n → ∀ x ∈ bl k, isBlank x.toNat = true) (hw : ∀ k, k < n → (ws k).2 < 18446744073709551616) :
    ∀ k, k ≤ n → ∀ c : UInt8, (c = 44 ∨ c = 93) → ∃ L, Lex.new.run (numsPre bl ws k ++ [c]) = (L, numsDone ws k ++ [Tok.of c.toNat]) ∧ L.Rest
  | 0, _, c, hc => by
    rcases hc with rfl | rfl <;> exact ⟨_, rfl, rfl, rfl⟩
  | k + 1, hk, c, hc => by
    have hst : ∃ M, Lex.new.run (numsPre bl ws k ++ (if k = 0 then [] else [44])) = (M, numsDone ws k ++ (if k = 0 then [] else [Tok.of 44])) ∧ M.Rest := by
      by_cases h0 : k = 0
      · subst h0
        exact ⟨_, rfl, rfl, rfl⟩
      · rw [if_neg h0, if_neg h0]
        exact nums_run bl ws n hb hw k (by omega) 44 (Or.inl rfl)
    obtain ⟨M, h1, h2⟩ := hst
    have hcm : isMark c.toNat = true ∧ isBlank c.toNat = false ∧ isDig c.toNat = false ∧ ¬ ((c.toNat : Int) = 46 ∨ (c.toNat : Int) = 101 ∨ (c.toNat : Int) = 69) := by
      rcases hc with rfl | rfl <;> decide
    obtain ⟨L, h3, h4⟩ := rest_num h2 (ws k) (hw k (by omega)) hcm.1 hcm.2.1 hcm.2.2.1 hcm.2.2.2
    refine ⟨L, ?_, h4⟩
    have e : numsPre bl ws (k + 1) ++ [c] = (numsPre bl ws k ++ (if k = 0 then [] else [44])) ++ (bl k ++ (printW (ws k).1 (ws k).2 ++ [c])) := by simp [numsPre]
    rw [e, Lex.run_append, h1]
    simp only []
    rw [Lex.run_append M, rest_blanks h2 _ (hb k (by omega))]
    simp only []
    rw [h3]
    simp [numsDone]

/-- the parts -/
def numEvs (ws : Nat → Bool × Nat) (n : Nat) : List Ev := (List.range n).map (fun k => evInt (ws k).1 (ws k).2)

theorem nums_toks (ws : Nat → Bool × Nat) : ∀ k, (Js.new 1).toks (numsDone ws k) = (evArr (-1) :: numEvs ws k, { Js.new 1 with maps := [false], next := if k = 0 then 1 else 5 })
  | 0 => rfl
  | k + 1 => by
    have ih := nums_toks ws k
    have he : ((Js.new 1).toks (numsDone ws k)).2.e = 0 := by rw [ih]; rfl
    have e : numsDone ws (k + 1) = numsDone ws k ++ ((if k = 0 then [] else [Tok.of 44]) ++ [numT (ws k)]) := by simp [numsDone]
    rw [e, js_toks_append _ _ _ he, ih]
    have er : numEvs ws (k + 1) = numEvs ws k ++ [evInt (ws k).1 (ws k).2] := by unfold numEvs; rw [List.range_succ]; simp
    rw [er]
    by_cases h0 : k = 0
    · subst h0
      rfl
    · rw [if_neg h0, if_neg h0]
      rfl

theorem nums_all (bl : Nat → List UInt8) (ws : Nat → Bool × Nat) (n : Nat) (hb : ∀ k, k < n → ∀ x ∈ bl k, isBlank x.toNat = true) (hw : ∀ k, k < n → (ws k).2 < 18446744073709551616) :
    jsAll (numsPre bl ws n ++ [93]) 1 = (evArr (-1) :: numEvs ws n ++ [evEnd], 0) := by
  obtain ⟨L, h1, h2⟩ := nums_run bl ws n hb hw n (Nat.le_refl _) 93 (Or.inr rfl)
  have hf : L.fin = (L, []) := by unfold Lex.fin; rw [if_pos (Or.inr h2.2)]
  have ih := nums_toks ws n
  have he : ((Js.new 1).toks (numsDone ws n)).2.e = 0 := by rw [ih]; rfl
  have ht : (Js.new 1).toks (numsDone ws n ++ [Tok.of 93]) = (evArr (-1) :: numEvs ws n ++ [evEnd], { Js.new 1 with maps := [], next := 6 }) := by
    rw [js_toks_append _ _ _ he, ih]
    by_cases h0 : n = 0
    · subst h0; rfl
    · rw [if_neg h0]; rfl
  have ht' : (Js.new 1).toks (numsDone ws n ++ [Tok.of ((93 : UInt8).toNat : Int)] ++ []) = (evArr (-1) :: numEvs ws n ++ [evEnd], { Js.new 1 with maps := [], next := 6 }) := by
    rw [List.append_nil]; exact ht
  rw [jsAll_toks (by omega) h1 h2.1 hf h2.1 (by rw [ht']; rfl) (by rw [ht'])]
  rw [ht']

end Go.Tru

namespace Go.Tru

def Cont.met (c : Cont) : Bool := if c.pairs then decide (c.parts % 2 = 0 ∧ c.parts / 2 = c.count) else decide (c.parts = c.count)

structure Core where
  depth : Int
  open_ : List Cont
  done : Bool
  e : Int
  word : Bool
  chunks : Bool
  lack : Int
  s : List UInt8
  c : Chk

def Core.new (depth : Int) : Core := ⟨depth, [], false, 0, false, false, 0, [], Chk.zero⟩

/-- an item is at its end: the ends that come with it, the containers that stay open, is the document at its end? -/
def closeUp : List Cont → List Ev × List Cont × Bool
  | [] => ([], [], true)
  | c :: r => if ({ c with parts := c.parts + 1 } : Cont).met then let t := closeUp r; (evEnd :: t.1, t.2.1, t.2.2) else ([], { c with parts := c.parts + 1 } :: r, false)

def Core.fail (k : Core) (e : Int) : List Ev × Core := ([], { k with e := e })

def Core.value (k : Core) (p : Ev) : List Ev × Core :=
  let t := closeUp k.open_
  (p :: t.1, { k with open_ := t.2.1, done := k.done || t.2.2 })

def beginEv (pairs : Bool) (count : Int) : Ev := if pairs then evMap count else evArr count

def Core.begin (k : Core) (pairs : Bool) (count : Int) : List Ev × Core :=
  if count = 0 then let t := k.value evEnd; (beginEv pairs count :: t.1, t.2)
  else ([beginEv pairs count], { k with open_ := ⟨pairs, count, 0⟩ :: k.open_ })

def Core.brk (k : Core) : List Ev × Core :=
  match k.open_ with
  | [] => k.fail 2
  | c :: r => if 0 ≤ c.count ∨ c.pairs = true ∧ 0 < c.parts % 2 then k.fail 2 else Core.value { k with open_ := r } evEnd

def bytesOf (l : List UInt8) : ByteArray := ⟨l.toArray⟩
def wordEv (word : Bool) (l : List UInt8) : Ev := if word then evText (bytesOf l) else evBytes (bytesOf l)

def Core.text (k : Core) : List Ev × Core := Core.value { k with s := [], chunks := false } (wordEv k.word k.s)

def Core.length (k : Core) (word : Bool) (n : Int) : List Ev × Core :=
  if (200 - (k.s.length : Int)) < n then k.fail 5
  else
    let k' := { k with word := word, lack := n, c := Chk.zero }
    if 0 < n ∨ k'.chunks = true then ([], k') else k'.text

def Core.byte (k : Core) (b : Int) : List Ev × Core :=
  let c' := if k.word then k.c.step b else k.c
  let k' := { k with s := k.s ++ [UInt8.ofNat b.toNat], lack := k.lack - 1, c := c' }
  if k.word = true ∧ (c'.bad = true ∨ k.lack - 1 = 0 ∧ c'.whole = false) then k'.fail 9
  else if 0 < k.lack - 1 ∨ k.chunks = true then ([], k')
  else k'.text

def Core.over (k : Core) : Int := if k.e = 0 ∧ k.done = false then 3 else k.e
def Core.held (k : Core) : Int := if k.e ≠ 0 then 0 else (k.s.length : Int) + k.open_.length
def Core.atKey (k : Core) : Bool := match k.open_ with | [] => false | c :: _ => c.pairs && decide (c.parts % 2 = 0)
def Core.full (k : Core) : Bool := decide (k.depth ≤ (k.open_.length : Int))

/-- what holds of every Core that was made and stepped N times -/
structure Core.Fit (N : Int) (k : Core) : Prop where
  depth : 1 ≤ k.depth ∧ k.depth ≤ 16
  opens : (k.open_.length : Int) ≤ k.depth
  parts : ∀ c ∈ k.open_, 0 ≤ c.parts ∧ c.parts ≤ N ∧ -1 ≤ c.count ∧ c.count ≤ 1000000
  lack : 0 ≤ k.lack ∧ k.lack + k.s.length ≤ 200
  chk : k.c.Fit

theorem Core.Fit.mono {N M : Int} {k : Core} (h : k.Fit N) (hm : N ≤ M) : k.Fit M :=
  ⟨h.depth, h.opens, fun c hc => by obtain ⟨h1, h2, h3⟩ := h.parts c hc; exact ⟨h1, by omega, h3⟩, h.lack, h.chk⟩

theorem Core.fit_new {d N : Int} (h : 1 ≤ d ∧ d ≤ 16) : (Core.new d).Fit N :=
  ⟨h, by simp [Core.new]; omega, by simp [Core.new], by simp [Core.new], Chk.fit_zero⟩

theorem closeUp_fit {N : Int} : ∀ {l : List Cont}, (∀ c ∈ l, 0 ≤ c.parts ∧ c.parts ≤ N ∧ -1 ≤ c.count ∧ c.count ≤ 1000000) →
    (closeUp l).2.1.length ≤ l.length ∧ ∀ c ∈ (closeUp l).2.1, 0 ≤ c.parts ∧ c.parts ≤ N + 1 ∧ -1 ≤ c.count ∧ c.count ≤ 1000000
  | [], _ => by simp [closeUp]
  | c :: r, h => by
    have hc := h c (List.mem_cons_self ..)
    have hr : ∀ c ∈ r, 0 ≤ c.parts ∧ c.parts ≤ N ∧ -1 ≤ c.count ∧ c.count ≤ 1000000 := fun x hx => h x (List.mem_cons_of_mem _ hx)
    unfold closeUp
    split
    · obtain ⟨h1, h2⟩ := closeUp_fit hr
      exact ⟨by simp only [List.length_cons]; omega, h2⟩
    · refine ⟨by simp, fun x hx => ?_⟩
      rcases List.mem_cons.1 hx with rfl | hx
      · simp only []; omega
      · obtain ⟨h1, h2, h3⟩ := hr x hx
        exact ⟨h1, by omega, h3⟩

theorem Core.fit_fail {N : Int} {k : Core} (h : k.Fit N) (e : Int) : (k.fail e).2.Fit N := ⟨h.depth, h.opens, h.parts, h.lack, h.chk⟩

theorem Core.fit_value {N : Int} {k : Core} (h : k.Fit N) (p : Ev) : (k.value p).2.Fit (N + 1) := by
  obtain ⟨h1, h2⟩ := closeUp_fit h.parts
  have := h.opens
  exact ⟨h.depth, by simp only [Core.value]; omega, h2, h.lack, h.chk⟩

theorem Core.fit_begin {N : Int} {k : Core} (h : k.Fit N) (hf : k.full = false) (hN : 0 ≤ N) (pairs : Bool) {count : Int} (hc : -1 ≤ count ∧ count ≤ 1000000) : (k.begin pairs count).2.Fit (N + 1) := by
  unfold Core.begin
  split
  · exact Core.fit_value h evEnd
  · have := h.opens
    unfold Core.full at hf
    simp only [decide_eq_false_iff_not] at hf
    refine ⟨h.depth, by simp only [List.length_cons]; omega, fun c hc' => ?_, h.lack, h.chk⟩
    simp only [] at hc'
    rcases List.mem_cons.1 hc' with rfl | hx
    · simp only []; omega
    · obtain ⟨h1, h2, h3⟩ := h.parts c hx
      exact ⟨h1, by omega, h3⟩

theorem Core.fit_brk {N : Int} {k : Core} (h : k.Fit N) : k.brk.2.Fit (N + 1) := by
  unfold Core.brk
  split
  · exact (Core.fit_fail h 2).mono (by omega)
  · rename_i c r ho
    split
    · exact (Core.fit_fail h 2).mono (by omega)
    · have h2 : Core.Fit N { k with open_ := r } := by
        refine ⟨h.depth, ?_, fun x hx => h.parts x (by rw [ho]; exact List.mem_cons_of_mem c hx), h.lack, h.chk⟩
        have := h.opens
        rw [ho] at this
        simp only [List.length_cons] at this ⊢
        omega
      exact Core.fit_value h2 evEnd

theorem Core.fit_text {N : Int} {k : Core} (h : k.Fit N) : k.text.2.Fit (N + 1) := by
  have hk : Core.Fit N { k with s := [], chunks := false } := ⟨h.depth, h.opens, h.parts, by have := h.lack; simp only [List.length_nil]; omega, h.chk⟩
  exact Core.fit_value hk (wordEv k.word k.s)

theorem Core.fit_length {N : Int} {k : Core} (h : k.Fit N) (word : Bool) {n : Int} (hn : 0 ≤ n) : (k.length word n).2.Fit (N + 1) := by
  unfold Core.length
  split
  · exact (Core.fit_fail h 5).mono (by omega)
  · have hk : Core.Fit N { k with word := word, lack := n, c := Chk.zero } := ⟨h.depth, h.opens, h.parts, by simp only []; omega, Chk.fit_zero⟩
    simp only []
    split
    · exact hk.mono (by omega)
    · exact Core.fit_text hk

theorem Core.fit_byte {N : Int} {k : Core} (h : k.Fit N) (hl : 0 < k.lack) (b : Int) : (k.byte b).2.Fit (N + 1) := by
  unfold Core.byte
  have hc : (if k.word then k.c.step b else k.c).Fit := by
    split
    · exact Chk.fit_step h.chk b
    · exact h.chk
  generalize (if k.word then k.c.step b else k.c) = c' at hc
  have hk : Core.Fit N { k with s := k.s ++ [UInt8.ofNat b.toNat], lack := k.lack - 1, c := c' } :=
    ⟨h.depth, h.opens, h.parts, by have := h.lack; simp only [List.length_append, List.length_singleton]; omega, hc⟩
  simp only []
  split
  · exact (Core.fit_fail hk 9).mono (by omega)
  · split
    · exact hk.mono (by omega)
    · exact Core.fit_text hk
end Go.Tru

namespace Go.Tru

/-- one part more in the innermost container -/
def bump1 : List Cont → List Cont
  | [] => []
  | c :: s => { c with parts := c.parts + 1 } :: s

/-- what is open behind a part -/
def wNext (s : List Cont) (e : Ev) : List Cont :=
  if e.kind = 7 then s.tail
  else if e.kind = 5 ∨ e.kind = 6 then ⟨decide (e.kind = 6), e.count, 0⟩ :: bump1 s
  else bump1 s

/-- a leaf of a document -/
def DLeaf (e : Ev) : Prop := e = evNull ∨ (∃ b, e = evBool b) ∨ (∃ b, ∃ m : Nat, m < 2147483648 ∧ e = evInt b m) ∨ (∃ t : ByteArray, t.size ≤ 28 ∧ e = evText t)

def roomOf (c : Cont) : Int := if c.pairs = true then 2 * c.count else c.count

structure CFit (c : Cont) : Prop where
  count : 0 ≤ c.count ∧ c.count ≤ 1000
  parts : 0 ≤ c.parts ∧ c.parts ≤ 3000

/-- a value may come here -/
def ValOk (s : List Cont) : Prop := s = [] ∨ ∃ c r, s = c :: r ∧ CFit c ∧ c.parts < roomOf c ∧ (c.pairs = true → c.parts % 2 = 1)
/-- a key may come here -/
def KeyOk (s : List Cont) : Prop := ∃ c r, s = c :: r ∧ CFit c ∧ c.parts < roomOf c ∧ c.pairs = true ∧ c.parts % 2 = 0
/-- it is at its end -/
def EndOk (s : List Cont) : Prop := ∃ c r, s = c :: r ∧ CFit c ∧ c.parts = roomOf c

/-- a part may come here -/
def WOk (s : List Cont) (e : Ev) : Prop :=
  s.length ≤ 20 ∧ ((DLeaf e ∧ ValOk s) ∨ ((∃ t : ByteArray, t.size ≤ 28 ∧ e = evText t) ∧ KeyOk s) ∨ ((∃ (m : Bool) (n : Nat), n < 16 ∧ e = beginEv m n) ∧ ValOk s) ∨ (e = evEnd ∧ EndOk s))

/-- parts, one behind the other; between them at least so much is open -/
inductive Tr (n : Nat) : List Cont → List Ev → List Cont → Prop
  | nil {s : List Cont} : Tr n s [] s
  | cons {s t : List Cont} {e : Ev} {r : List Ev} (h : WOk s e) (hn : r ≠ [] → n ≤ (wNext s e).length) (hr : Tr n (wNext s e) r t) : Tr n s (e :: r) t

theorem Tr.one {n : Nat} {s : List Cont} {e : Ev} (h : WOk s e) : Tr n s [e] (wNext s e) := Tr.cons h (fun h => absurd rfl h) Tr.nil

theorem Tr.mono {n m : Nat} (hm : m ≤ n) {s t : List Cont} {l : List Ev} (h : Tr n s l t) : Tr m s l t := by
  induction h with
  | nil => exact Tr.nil
  | cons h hn _ ih => exact Tr.cons h (fun hr => Nat.le_trans hm (hn hr)) ih

theorem Tr.append {n : Nat} {s t u : List Cont} {a b : List Ev} (h : Tr n s a t) (k : Tr n t b u) (hn : n ≤ t.length) : Tr n s (a ++ b) u := by
  induction h with
  | nil => exact k
  | @cons s t e r h h2 hr ih =>
    refine Tr.cons h (fun _ => ?_) (ih k hn)
    cases r with
    | nil =>
      cases hr
      exact hn
    | cons x r => exact h2 (by simp)

theorem bump1_len (s : List Cont) : (bump1 s).length = s.length := by cases s <;> rfl

theorem next_leaf {s : List Cont} {e : Ev} (h : DLeaf e) : wNext s e = bump1 s := by
  rcases h with rfl | ⟨b, rfl⟩ | ⟨b, m, _, rfl⟩ | ⟨t, _, rfl⟩ <;> simp [wNext, evNull, evBool, evInt, evText]

theorem next_open (s : List Cont) (m : Bool) (n : Nat) : wNext s (beginEv m n) = ⟨m, n, 0⟩ :: bump1 s := by
  cases m <;> simp [wNext, beginEv, evArr, evMap]

theorem next_end (s : List Cont) : wNext s evEnd = s.tail := by simp [wNext, evEnd]

theorem leaf_doc {x : Nat} (hx : x < 65536) : ∃ e, docLeaf x = [e] ∧ DLeaf e := by
  unfold docLeaf
  by_cases h0 : x % 8 = 0
  · rw [if_pos h0]; exact ⟨_, rfl, Or.inl rfl⟩
  rw [if_neg h0]
  by_cases h1 : x % 8 = 1
  · rw [if_pos h1]; exact ⟨_, rfl, Or.inr (Or.inl ⟨_, rfl⟩)⟩
  rw [if_neg h1]
  by_cases h2 : x % 8 = 2 ∨ x % 8 = 3
  · rw [if_pos h2]
    have hm : (x * x) >>> (x % 8) < 2147483648 := by
      have hxx : x * x < 65536 * 65536 := Nat.mul_lt_mul_of_lt_of_lt hx hx
      rw [Nat.shiftRight_eq_div_pow]
      rcases h2 with h2 | h2 <;> rw [h2] <;> omega
    exact ⟨_, rfl, Or.inr (Or.inr (Or.inl ⟨_, _, hm, rfl⟩))⟩
  rw [if_neg h2]
  by_cases h3 : x % 8 = 4
  · rw [if_pos h3]; exact ⟨_, rfl, Or.inr (Or.inr (Or.inr ⟨_, docText_size x, rfl⟩))⟩
  rw [if_neg h3]
  by_cases h4 : x % 8 = 5
  · rw [if_pos h4]; exact ⟨_, rfl, Or.inr (Or.inr (Or.inr ⟨noText, by decide, rfl⟩))⟩
  rw [if_neg h4]; exact ⟨_, rfl, Or.inr (Or.inr (Or.inl ⟨_, x, by omega, rfl⟩))⟩

def ItemTr (k : Nat) : Prop := ∀ (l : List Int) (s : List Cont), ValOk s → s.length + k ≤ 20 → Tr (s.length + 1) s (docItem k l).1 (bump1 s)

theorem tr_leaf {x : Nat} (hx : x < 65536) {s : List Cont} (h : ValOk s) (hs : s.length ≤ 20) : Tr (s.length + 1) s (docLeaf x) (bump1 s) := by
  obtain ⟨e, he, hl⟩ := leaf_doc hx
  rw [he, ← next_leaf hl]
  exact Tr.one ⟨hs, Or.inl ⟨hl, h⟩⟩

theorem arr_tr {k : Nat} (ih : ItemTr k) (s : List Cont) (hs : s.length + (k + 1) ≤ 20) (n : Nat) (hn : n < 16) : ∀ (m j : Nat) (l : List Int), j + m = n → Tr (s.length + 1) (⟨false, n, j⟩ :: s) (rep (docItem k) m l).1 (⟨false, n, n⟩ :: s)
  | 0, j, l, hj => by
    have : j = n := by omega
    subst this
    exact Tr.nil
  | m + 1, j, l, hj => by
    have h1 := ih l (⟨false, n, j⟩ :: s) (Or.inr ⟨_, _, rfl, ⟨by simp only []; omega, by simp only []; omega⟩, by simp only [roomOf]; simp; omega, by simp⟩) (by simp only [List.length_cons]; omega)
    have h2 := arr_tr ih s hs n hn m (j + 1) (docItem k l).2 (by omega)
    have e : (rep (docItem k) (m + 1) l).1 = (docItem k l).1 ++ (rep (docItem k) m (docItem k l).2).1 := rfl
    rw [e]
    refine Tr.append (h1.mono (by simp)) ?_ (by simp [bump1])
    simpa [bump1] using h2

theorem map_tr {k : Nat} (ih : ItemTr k) (s : List Cont) (hs : s.length + (k + 1) ≤ 20) (n : Nat) (hn : n < 16) : ∀ (m j : Nat) (l : List Int), j + m = n → Tr (s.length + 1) (⟨true, n, 2 * j⟩ :: s) (rep (docPair (docItem k)) m l).1 (⟨true, n, 2 * n⟩ :: s)
  | 0, j, l, hj => by
    have : j = n := by omega
    subst this
    exact Tr.nil
  | m + 1, j, l, hj => by
    have e : (rep (docPair (docItem k)) (m + 1) l).1 = (evText (docText (nx l).1) :: (docItem k (nx l).2).1) ++ (rep (docPair (docItem k)) m (docPair (docItem k) l).2).1 := rfl
    have hf : CFit ⟨true, n, 2 * j⟩ := ⟨by simp only []; omega, by simp only []; omega⟩
    have hf1 : CFit ⟨true, n, 2 * j + 1⟩ := ⟨by simp only []; omega, by simp only []; omega⟩
    have hk : wNext (⟨true, n, 2 * j⟩ :: s) (evText (docText (nx l).1)) = ⟨true, n, 2 * j + 1⟩ :: s := by simp [wNext, evText, bump1]
    have h1 := ih (nx l).2 (⟨true, n, 2 * j + 1⟩ :: s) (Or.inr ⟨_, _, rfl, hf1, by simp only [roomOf, if_true]; omega, fun _ => by simp only []; omega⟩) (by simp only [List.length_cons]; omega)
    have h2 := map_tr ih s hs n hn m (j + 1) (docPair (docItem k) l).2 (by omega)
    rw [e]
    refine Tr.append (t := ⟨true, n, 2 * j + 1 + 1⟩ :: s) (Tr.cons ⟨by simp only [List.length_cons]; omega, Or.inr (Or.inl ⟨⟨_, docText_size _, rfl⟩, _, _, rfl, hf, by simp only [roomOf, if_true]; omega, rfl, by simp only []; omega⟩)⟩ (fun _ => by rw [hk]; simp) ?_) ?_ (by simp)
    · rw [hk]
      exact (h1.mono (by simp))
    · have e2 : (2 : Int) * ((j + 1 : Nat) : Int) = 2 * (j : Int) + 1 + 1 := by omega
      rw [e2] at h2
      exact h2

theorem item_tr : ∀ k, ItemTr k
  | 0 => fun l s h hs => tr_leaf (nx_small l) h (by omega)
  | k + 1 => fun l s h hs => by
    have ih := item_tr k
    unfold docItem
    by_cases h5 : (nx l).1 % 8 < 5
    · rw [if_pos h5]; exact tr_leaf (nx_small l) h (by omega)
    rw [if_neg h5]
    have hb : (bump1 s).length + (k + 1) ≤ 20 := by rw [bump1_len]; omega
    by_cases h6 : (nx l).1 % 8 = 5
    · rw [if_pos h6]
      obtain ⟨n, hn⟩ : ∃ n, (nx l).1 / 8 % 4 = n := ⟨_, rfl⟩
      have hn4 : n < 16 := by omega
      rw [hn]
      have h1 := arr_tr ih (bump1 s) hb n hn4 n 0 (nx l).2 (by omega)
      rw [bump1_len] at h1
      simp only [List.cons_append]
      refine Tr.cons ⟨by omega, Or.inr (Or.inr (Or.inl ⟨⟨false, n, hn4, rfl⟩, h⟩))⟩ (fun _ => by rw [show evArr (n : Int) = beginEv false n from rfl, next_open]; simp [bump1_len]) ?_
      rw [show evArr (n : Int) = beginEv false n from rfl, next_open]
      refine Tr.append h1 ?_ (by simp [bump1_len])
      have := Tr.one (n := s.length + 1) (s := ⟨false, n, n⟩ :: bump1 s) (e := evEnd) ⟨by simp only [List.length_cons]; omega, Or.inr (Or.inr (Or.inr ⟨rfl, _, _, rfl, ⟨by simp only []; omega, by simp only []; omega⟩, by simp [roomOf]⟩))⟩
      rw [next_end] at this
      exact this
    · rw [if_neg h6]
      obtain ⟨n, hn⟩ : ∃ n, (nx l).1 / 8 % 3 = n := ⟨_, rfl⟩
      have hn4 : n < 16 := by omega
      rw [hn]
      have h1 := map_tr ih (bump1 s) hb n hn4 n 0 (nx l).2 (by omega)
      rw [bump1_len] at h1
      simp only [List.cons_append]
      refine Tr.cons ⟨by omega, Or.inr (Or.inr (Or.inl ⟨⟨true, n, hn4, rfl⟩, h⟩))⟩ (fun _ => by rw [show evMap (n : Int) = beginEv true n from rfl, next_open]; simp [bump1_len]) ?_
      rw [show evMap (n : Int) = beginEv true n from rfl, next_open]
      refine Tr.append h1 ?_ (by simp [bump1_len])
      have := Tr.one (n := s.length + 1) (s := ⟨true, n, 2 * n⟩ :: bump1 s) (e := evEnd) ⟨by simp only [List.length_cons]; omega, Or.inr (Or.inr (Or.inr ⟨rfl, _, _, rfl, ⟨by simp only []; omega, by simp only []; omega⟩, by simp [roomOf]⟩))⟩
      rw [next_end] at this
      exact this

theorem doc_tr (l : List Int) (dep : Nat) (hd : dep ≤ 16) : Tr 1 [] (doc l dep) [] := item_tr dep l [] (Or.inl rfl) (by simp; omega)

/-- what is open behind so many parts -/
def wAfter (s : List Cont) (l : List Ev) : List Cont := l.foldl wNext s

theorem tr_at {n : Nat} {s t : List Cont} {l : List Ev} (h : Tr n s l t) : ∀ i e, l[i]? = some e → WOk (wAfter s (l.take i)) e ∧ (i + 1 < l.length → n ≤ (wAfter s (l.take (i + 1))).length) ∧ wAfter s (l.take (i + 1)) = wNext (wAfter s (l.take i)) e := by
  induction h with
  | nil => intro i e h; simp at h
  | @cons s t e r h hn _ ih =>
    intro i x hx
    cases i with
    | zero =>
      simp only [List.getElem?_cons_zero, Option.some.injEq] at hx
      subst hx
      refine ⟨by simpa [wAfter] using h, fun hl => ?_, by simp [wAfter]⟩
      have : r ≠ [] := by intro hr; rw [hr] at hl; simp at hl
      simpa [wAfter] using hn this
    | succ i =>
      obtain ⟨h1, h2, h3⟩ := ih i x (by simpa using hx)
      refine ⟨by simpa [wAfter] using h1, fun hl => ?_, by simpa [wAfter] using h3⟩
      simpa [wAfter] using h2 (by simpa using hl)

theorem tr_end {n : Nat} {s t : List Cont} {l : List Ev} (h : Tr n s l t) : wAfter s l = t := by
  induction h with
  | nil => rfl
  | cons _ _ _ ih => simpa [wAfter] using ih
end Go.Tru

namespace Go.Tru

/-! ### the text -/

def topMap : List Cont → Bool
  | [] => false
  | c :: _ => c.pairs

def sepJ (s : List Cont) (e : Ev) : List UInt8 :=
  if e.kind = 7 then [] else
    match s with
    | [] => []
    | c :: _ => if c.parts = 0 then [] else if c.pairs = true ∧ c.parts % 2 = 1 then [58] else [44]

def bodyJ (s : List Cont) (e : Ev) : List UInt8 :=
  if e.kind = 0 then [110, 117, 108, 108]
  else if e.kind = 1 then (if e.yes = true then [116, 114, 117, 101] else [102, 97, 108, 115, 101])
  else if e.kind = 2 then printW e.yes e.mag.toNat
  else if e.kind = 3 then 34 :: (writeOf e.text.data.toList ++ [34])
  else if e.kind = 5 then [91] else if e.kind = 6 then [123]
  else if topMap s = true then [125] else [93]

def tokB (b : UInt8) : Tok := Tok.of b.toNat

def bodyK (s : List Cont) (e : Ev) : Tok :=
  if e.kind = 0 then Tok.of 48
  else if e.kind = 1 then (if e.yes = true then Tok.of 116 else Tok.of 102)
  else if e.kind = 2 then numT (e.yes, e.mag.toNat)
  else if e.kind = 3 then ⟨115, ⟨e.text.data.toList.toArray⟩, false, 0⟩
  else if e.kind = 5 then Tok.of 91 else if e.kind = 6 then Tok.of 123
  else if topMap s = true then Tok.of 125 else Tok.of 93

def partJ (pre post : List UInt8) (s : List Cont) (e : Ev) : List UInt8 := pre ++ ((sepJ s e ++ bodyJ s e) ++ post)
def partK (s : List Cont) (e : Ev) : List Tok := (sepJ s e).map tokB ++ [bodyK s e]

def textJ (pre post : List UInt8) : List Cont → List Ev → List UInt8
  | _, [] => []
  | s, e :: r => partJ pre post s e ++ textJ pre post (wNext s e) r

def toksJ : List Cont → List Ev → List Tok
  | _, [] => []
  | s, e :: r => partK s e ++ toksJ (wNext s e) r

theorem textJ_snoc (pre post : List UInt8) : ∀ (a : List Ev) (s : List Cont) (e : Ev), textJ pre post s (a ++ [e]) = textJ pre post s a ++ partJ pre post (wAfter s a) e
  | [], s, e => by simp [textJ, wAfter]
  | x :: a, s, e => by
    simp only [List.cons_append, textJ, textJ_snoc pre post a, List.append_assoc]
    rfl

theorem toksJ_snoc : ∀ (a : List Ev) (s : List Cont) (e : Ev), toksJ s (a ++ [e]) = toksJ s a ++ partK (wAfter s a) e
  | [], s, e => by simp [toksJ, wAfter]
  | x :: a, s, e => by
    simp only [List.cons_append, toksJ, toksJ_snoc a, List.append_assoc]
    rfl

/-! ### its tokens -/

/-- between two tokens, or within a number: the tokens that lack -/
def LexAt (L : Lex) (pd : List Tok) : Prop :=
  L.e = 0 ∧ (L.state = 0 ∧ pd = [] ∨ L.state = 2 ∧ ∃ (g z : Bool) (val m : Nat), NumAt L.n g true z val ∧ L.n.result = (g, m, 0) ∧ pd = [numT (g, m)])

theorem LexAt.rest {L : Lex} (h : LexAt L []) : L.Rest := by
  obtain ⟨h1, ⟨h2, _⟩ | ⟨_, g, z, val, m, _, _, h⟩⟩ := h
  · exact ⟨h1, h2⟩
  · cases h

theorem LexAt.of {L : Lex} (h : L.Rest) : LexAt L [] := ⟨h.1, Or.inl ⟨h.2, rfl⟩⟩

theorem mark_facts {b : Int} (h : isMark b = true) : isBlank b = false ∧ isDig b = false ∧ ¬ (b = 46 ∨ b = 101 ∨ b = 69) := by
  simp only [isMark, decide_eq_true_eq] at h
  refine ⟨?_, ?_, by omega⟩
  · simp only [isBlank, decide_eq_false_iff_not]; omega
  · simp only [isDig, decide_eq_false_iff_not]; omega

theorem blank_facts {b : Int} (h : isBlank b = true) : isMark b = false ∧ isDig b = false ∧ ¬ (b = 46 ∨ b = 101 ∨ b = 69) := by
  simp only [isBlank, decide_eq_true_eq] at h
  refine ⟨?_, ?_, by omega⟩
  · simp only [isMark, decide_eq_false_iff_not]; omega
  · simp only [isDig, decide_eq_false_iff_not]; omega

theorem LexAt.mark {L : Lex} {pd : List Tok} (h : LexAt L pd) {c : UInt8} (hk : isMark c.toNat = true) : ∃ L', L.run [c] = (L', pd ++ [tokB c]) ∧ L'.Rest := by
  obtain ⟨hb, hd, hx⟩ := mark_facts hk
  obtain ⟨h1, ⟨h2, rfl⟩ | ⟨h2, g, z, val, m, ha, hr, rfl⟩⟩ := h
  · exact ⟨L, by rw [Lex.run_one]; exact step_mark ⟨h1, h2⟩ hk hb, h1, h2⟩
  · rw [Lex.run_one, Lex.step_num h1 h2 ha hr hd hx]
    have : Lex.between { L with state := 0 } c.toNat = ({ L with state := 0 }, [Tok.of c.toNat]) := by
      unfold Lex.between; rw [if_neg (by simp [hb]), if_pos hk]
    simp only [this]
    refine ⟨{ L with state := 0 }, ?_, h1, rfl⟩
    rw [if_neg (by simp [h1])]
    rfl

theorem LexAt.blank {L : Lex} {pd : List Tok} (h : LexAt L pd) {c : UInt8} (hb : isBlank c.toNat = true) : ∃ L', L.run [c] = (L', pd) ∧ L'.Rest := by
  obtain ⟨hk, hd, hx⟩ := blank_facts hb
  obtain ⟨h1, ⟨h2, rfl⟩ | ⟨h2, g, z, val, m, ha, hr, rfl⟩⟩ := h
  · exact ⟨L, by rw [Lex.run_one]; exact step_blank ⟨h1, h2⟩ hb, h1, h2⟩
  · rw [Lex.run_one, Lex.step_num h1 h2 ha hr hd hx]
    have : Lex.between { L with state := 0 } c.toNat = ({ L with state := 0 }, []) := by
      unfold Lex.between; rw [if_pos hb]
    simp only [this]
    refine ⟨{ L with state := 0 }, ?_, h1, rfl⟩
    rw [if_neg (by simp [h1])]
    rfl

theorem LexAt.blanks : ∀ (l : List UInt8), (∀ x ∈ l, isBlank x.toNat = true) → ∀ {L : Lex} {pd : List Tok}, LexAt L pd → ∃ L' ts pd', L.run l = (L', ts) ∧ LexAt L' pd' ∧ ts ++ pd' = pd ∧ (pd' ≠ [] → pd ≠ [])
  | [], _, L, pd, h => ⟨L, [], pd, rfl, h, rfl, fun h => h⟩
  | x :: l, hb, L, pd, h => by
    obtain ⟨L1, h1, h2⟩ := h.blank (hb x (List.mem_cons_self ..))
    refine ⟨L1, pd, [], ?_, LexAt.of h2, by simp, fun h => absurd rfl h⟩
    have e : x :: l = [x] ++ l := rfl
    rw [e, Lex.run_append, h1]
    simp only []
    rw [rest_blanks h2 l (fun y hy => hb y (List.mem_cons_of_mem _ hy))]
    simp

theorem LexAt.fin {L : Lex} {pd : List Tok} (h : LexAt L pd) : ∃ L', L.fin = (L', pd) ∧ L'.e = 0 := by
  obtain ⟨h1, ⟨h2, rfl⟩ | ⟨h2, g, z, val, m, ha, hr, rfl⟩⟩ := h
  · exact ⟨L, by unfold Lex.fin; rw [if_pos (Or.inr h2)], h1⟩
  · exact ⟨_, Lex.fin_num h1 h2 hr, h1⟩

theorem run_text {L : Lex} (h : L.Rest) {l : List UInt8} (hu : utf8 l = true) (hl : l.length ≤ 200) :
    ∃ L', L.run (34 :: (writeOf l ++ [34])) = (L', [⟨115, ⟨l.toArray⟩, false, 0⟩]) ∧ L'.Rest := by
  obtain ⟨h1, h2⟩ := Lex.string_run h.1 h.2 hu
  rcases h2 with ⟨_, a⟩ | ⟨_, r, b, c⟩
  · omega
  · have e : (34 : UInt8) :: (writeOf l ++ [34]) = (34 :: writeOf l) ++ [34] := rfl
    rw [e, Lex.run_append, Lex.run_one, h1, b]
    have := Lex.step_unquote (L := { L with state := 1, r := r, s := l }) h.1 rfl c
    rw [show ((34 : UInt8).toNat : Int) = 34 from rfl, this]
    exact ⟨_, rfl, h.1, rfl⟩

/-- a document's texts are UTF-8 -/
def TextOk (e : Ev) : Prop := e.kind = 3 → utf8 e.text.data.toList = true

theorem body_leaf {L : Lex} (h : L.Rest) {s : List Cont} {e : Ev} (hl : DLeaf e) (hu : TextOk e) : ∃ L' ts pd, L.run (bodyJ s e) = (L', ts) ∧ LexAt L' pd ∧ ts ++ pd = [bodyK s e] ∧ (pd ≠ [] → e.kind = 2) := by
  rcases hl with rfl | ⟨b, rfl⟩ | ⟨b, m, hm, rfl⟩ | ⟨t, ht, rfl⟩
  · obtain ⟨L', h1, h2⟩ := run_word h (x := 110) (w := [117, 108, 108]) (c := 48) (step_w h _ _ (by simp [Lex.between, isBlank, isMark, isDig])) [] [117, 108, 108] rfl (by simp)
    exact ⟨L', _, [], h1, LexAt.of h2, rfl, fun h => absurd rfl h⟩
  · cases b
    · obtain ⟨L', h1, h2⟩ := run_word h (x := 102) (w := [97, 108, 115, 101]) (c := 102) (step_w h _ _ (by simp [Lex.between, isBlank, isMark, isDig])) [] [97, 108, 115, 101] rfl (by simp)
      exact ⟨L', _, [], h1, LexAt.of h2, rfl, fun h => absurd rfl h⟩
    · obtain ⟨L', h1, h2⟩ := run_word h (x := 116) (w := [114, 117, 101]) (c := 116) (step_w h _ _ (by simp [Lex.between, isBlank, isMark, isDig])) [] [114, 117, 101] rfl (by simp)
      exact ⟨L', _, [], h1, LexAt.of h2, rfl, fun h => absurd rfl h⟩
  · obtain ⟨z, h1, h2⟩ := at_print b (m := m) (by omega)
    have e1 : bodyJ s (evInt b m) = printW b m := rfl
    have e2 : bodyK s (evInt b m) = numT (b, m) := rfl
    rw [e1, e2, Lex.run_print h.1 h.2]
    exact ⟨_, [], [numT (b, m)], rfl, ⟨h.1, Or.inr ⟨rfl, b, z, _, m, h1, h2, rfl⟩⟩, rfl, fun _ => rfl⟩
  · have hz : t.data.toList.length ≤ 200 := by
      have : t.size = t.data.toList.length := by rw [Array.length_toList]; rfl
      omega
    obtain ⟨L', h1, h2⟩ := run_text h (hu rfl) hz
    exact ⟨L', _, [], h1, LexAt.of h2, rfl, fun h => absurd rfl h⟩

/-- what a part's own bytes are -/
theorem body_case {s : List Cont} {e : Ev} (hok : WOk s e) : DLeaf e ∨ ∃ c, bodyJ s e = [c] ∧ isMark c.toNat = true ∧ bodyK s e = tokB c := by
  obtain ⟨_, ⟨hl, _⟩ | ⟨⟨t, ht, rfl⟩, _⟩ | ⟨⟨m, n, hn, rfl⟩, _⟩ | ⟨rfl, _⟩⟩ := hok
  · exact Or.inl hl
  · exact Or.inl (Or.inr (Or.inr (Or.inr ⟨t, ht, rfl⟩)))
  · right
    cases m
    · exact ⟨91, rfl, rfl, rfl⟩
    · exact ⟨123, rfl, rfl, rfl⟩
  · right
    by_cases h : topMap s = true
    · exact ⟨125, by simp [bodyJ, evEnd, h], rfl, by simp [bodyK, evEnd, h]; rfl⟩
    · exact ⟨93, by simp [bodyJ, evEnd, h], rfl, by simp [bodyK, evEnd, h]; rfl⟩

theorem body_run {L : Lex} (h : L.Rest) {s : List Cont} {e : Ev} (hok : WOk s e) (hu : TextOk e) : ∃ L' ts pd, L.run (bodyJ s e) = (L', ts) ∧ LexAt L' pd ∧ ts ++ pd = [bodyK s e] ∧ (pd ≠ [] → e.kind = 2) := by
  rcases body_case hok with hl | ⟨c, h1, h2, h3⟩
  · exact body_leaf h hl hu
  · obtain ⟨L', i1, i2⟩ := (LexAt.of h).mark h2
    exact ⟨L', _, [], by rw [h1]; exact i1, LexAt.of i2, by rw [h3]; rfl, fun h => absurd rfl h⟩

theorem sep_case (s : List Cont) (e : Ev) : sepJ s e = [] ∨ ∃ c, sepJ s e = [c] ∧ isMark c.toNat = true := by
  unfold sepJ
  split
  · exact Or.inl rfl
  split
  · exact Or.inl rfl
  split
  · exact Or.inl rfl
  split
  · exact Or.inr ⟨58, rfl, rfl⟩
  · exact Or.inr ⟨44, rfl, rfl⟩

theorem part_run {L : Lex} {pd : List Tok} (h : LexAt L pd) {s : List Cont} {e : Ev} (hpd : pd ≠ [] → ∃ c r, s = c :: r ∧ 0 < c.parts) (hok : WOk s e) (hu : TextOk e) :
    ∃ L' ts pd', L.run (sepJ s e ++ bodyJ s e) = (L', ts) ∧ LexAt L' pd' ∧ ts ++ pd' = pd ++ partK s e ∧ (pd' ≠ [] → e.kind = 2) := by
  unfold partK
  rcases sep_case s e with hs | ⟨c, hs, hk⟩
  · rw [hs]
    by_cases hp : pd = []
    · subst hp
      simpa using body_run h.rest hok hu
    · obtain ⟨c, r, rfl, hc⟩ := hpd hp
      have h7 : e.kind = 7 := by
        unfold sepJ at hs
        by_cases h7 : e.kind = 7
        · exact h7
        · rw [if_neg h7] at hs
          simp only [] at hs
          rw [if_neg (by omega)] at hs
          split at hs <;> cases hs
      rcases body_case hok with hl | ⟨x, h1, h2, h3⟩
      · rcases hl with rfl | ⟨b, rfl⟩ | ⟨b, m, hm, rfl⟩ | ⟨t, ht, rfl⟩ <;> cases h7
      · obtain ⟨L', i1, i2⟩ := h.mark h2
        exact ⟨L', _, [], by rw [h1]; exact i1, LexAt.of i2, by rw [h3]; simp, fun h => absurd rfl h⟩
  · obtain ⟨L1, i1, i2⟩ := h.mark hk
    obtain ⟨L2, ts, pd', j1, j2, j3, j4⟩ := body_run i2 hok hu
    refine ⟨L2, pd ++ [tokB c] ++ ts, pd', ?_, j2, ?_, j4⟩
    · rw [hs, Lex.run_append, i1]
      simp only []
      rw [j1]
    · rw [hs, List.append_assoc, j3]
      simp

theorem int_next {s : List Cont} {e : Ev} (h : e.kind = 2) : wNext s e = bump1 s := by
  unfold wNext
  rw [if_neg (by omega), if_neg (by omega)]

theorem ok_parts {c : Cont} {r : List Cont} {e : Ev} (h : WOk (c :: r) e) : 0 ≤ c.parts := by
  obtain ⟨_, ⟨_, h⟩ | ⟨_, h⟩ | ⟨_, h⟩ | ⟨_, h⟩⟩ := h
  · rcases h with h | ⟨c', r', h, hf, _⟩
    · cases h
    · cases h; exact hf.parts.1
  · obtain ⟨c', r', h, hf, _⟩ := h
    cases h; exact hf.parts.1
  · rcases h with h | ⟨c', r', h, hf, _⟩
    · cases h
    · cases h; exact hf.parts.1
  · obtain ⟨c', r', h, hf, _⟩ := h
    cases h; exact hf.parts.1

theorem text_run {pre post : List UInt8} (hpre : ∀ x ∈ pre, isBlank x.toNat = true) (hpost : ∀ x ∈ post, isBlank x.toNat = true) {s t : List Cont} {l : List Ev} (h : Tr 1 s l t) :
    ∀ {L : Lex} {pd : List Tok}, LexAt L pd → (pd ≠ [] → l ≠ [] → ∃ c r, s = c :: r ∧ 0 < c.parts) → (∀ e ∈ l, TextOk e) →
      ∃ L' ts pd', L.run (textJ pre post s l) = (L', ts) ∧ LexAt L' pd' ∧ ts ++ pd' = pd ++ toksJ s l := by
  induction h with
  | nil => intro L pd hL _ _; exact ⟨L, [], pd, rfl, hL, by simp [toksJ]⟩
  | @cons s t e r hok hn hr ih =>
    intro L pd hL hpd hu
    obtain ⟨L1, t1, p1, a1, a2, a3, a4⟩ := LexAt.blanks pre hpre hL
    obtain ⟨L2, t2, p2, b1, b2, b3, b4⟩ := part_run a2 (fun h => hpd (a4 h) (by simp)) hok (hu e (List.mem_cons_self ..))
    obtain ⟨L3, t3, p3, c1, c2, c3, c4⟩ := LexAt.blanks post hpost b2
    obtain ⟨L4, t4, p4, d1, d2, d3⟩ := ih c2 (fun h hne => by
      have hk := int_next (s := s) (b4 (c4 h))
      have hl := hn hne
      rw [hk] at hl ⊢
      cases s with
      | nil => simp [bump1] at hl
      | cons c r =>
        have := ok_parts hok
        exact ⟨_, _, rfl, by simp only []; omega⟩) (fun x hx => hu x (List.mem_cons_of_mem _ hx))
    refine ⟨L4, t1 ++ (t2 ++ (t3 ++ t4)), p4, ?_, d2, ?_⟩
    · unfold textJ partJ
      rw [List.append_assoc, Lex.run_append, a1]
      simp only []
      rw [List.append_assoc, Lex.run_append, b1]
      simp only []
      rw [Lex.run_append, c1]
      simp only []
      rw [d1]
    · have e1 : t1 ++ (t2 ++ (t3 ++ t4)) ++ p4 = t1 ++ (t2 ++ (t3 ++ (t4 ++ p4))) := by simp
      rw [e1, d3, ← List.append_assoc t3, c3, ← List.append_assoc t2, b3, ← List.append_assoc t1, ← List.append_assoc t1, a3]
      simp [toksJ]

/-! ### what the Parser tells -/

def nextJ (c : Cont) : Int := if c.parts = 0 then (if c.pairs = true then 2 else 1) else if c.pairs = true ∧ c.parts % 2 = 1 then 4 else 5
def nextS (s : List Cont) (dn : Bool) : Int := match s with
  | [] => if dn = true then 6 else 0
  | c :: _ => nextJ c

structure JAt (d : Int) (s : List Cont) (dn : Bool) (p : Js) : Prop where
  e : p.e = 0
  depth : p.depth = d
  maps : p.maps = s.map Cont.pairs
  next : p.next = nextS s dn
  rest : ∀ c ∈ s.tail, 0 < c.parts ∧ (c.pairs = true → c.parts % 2 = 0)

theorem jat_new (d : Int) : JAt d [] false (Js.new d) := ⟨rfl, rfl, rfl, rfl, by simp⟩

theorem toks_one {p : Js} {t : Tok} {ev : List Ev} {q : Js} (h : (p.token t).1.toList = ev) (h2 : (p.token t).2 = q) (he : q.e = 0) : p.toks [t] = (ev, q) := by
  unfold Js.toks
  rw [h2, if_neg (by simp [he]), h]
  simp [Js.toks]

/-- where a value may come -/
def VAt (d : Int) (s : List Cont) (q : Js) : Prop := q.e = 0 ∧ q.depth = d ∧ q.maps = s.map Cont.pairs ∧ (q.next = 0 ∨ q.next = 1)

theorem sep_value {d : Int} {s : List Cont} {dn : Bool} {p : Js} (h : JAt d s dn p) (hdn : s = [] → dn = false) {e : Ev} (h7 : e.kind ≠ 7) (hv : ValOk s) : ∃ q, p.toks ((sepJ s e).map tokB) = ([], q) ∧ VAt d s q := by
  obtain ⟨l, depth, maps, next, e0⟩ := p
  obtain ⟨h1, h2, h3, h4, h5⟩ := h
  simp only at h1 h2 h3 h4
  subst h1 h2 h3 h4
  rcases hv with rfl | ⟨c, r, rfl, hf, hroom, hpar⟩
  · rw [hdn rfl]
    refine ⟨⟨l, depth, [], 0, 0⟩, ?_, ⟨rfl, rfl, rfl, Or.inl rfl⟩⟩
    unfold sepJ
    rw [if_neg h7]
    rfl
  · obtain ⟨pairs, count, parts⟩ := c
    unfold sepJ
    rw [if_neg h7]
    have hp := hf.parts
    simp only [nextS, nextJ] at hp hpar ⊢
    by_cases h0 : parts = 0
    · subst h0
      cases pairs
      · exact ⟨_, rfl, rfl, rfl, rfl, Or.inr rfl⟩
      · exact absurd (hpar rfl) (by decide)
    · rw [if_neg h0, if_neg h0]
      cases pairs
      · rw [if_neg (by simp), if_neg (by simp)]
        refine ⟨_, toks_one (p := ⟨l, depth, _, 5, 0⟩) (t := Tok.of 44) (ev := []) (q := ⟨l, depth, false :: r.map Cont.pairs, 0, 0⟩) rfl rfl rfl, rfl, rfl, rfl, Or.inl rfl⟩
      · rw [if_pos ⟨rfl, hpar rfl⟩, if_pos ⟨rfl, hpar rfl⟩]
        refine ⟨_, toks_one (p := ⟨l, depth, _, 4, 0⟩) (t := Tok.of 58) (ev := []) (q := ⟨l, depth, true :: r.map Cont.pairs, 0, 0⟩) rfl rfl rfl, rfl, rfl, rfl, Or.inl rfl⟩

theorem bump_maps (s : List Cont) : (bump1 s).map Cont.pairs = s.map Cont.pairs := by cases s <;> rfl

/-- behind a value -/
theorem behind_at {d : Int} {s : List Cont} {q : Js} (hq : VAt d s q) (hv : ValOk s) (hr : ∀ c ∈ s.tail, 0 < c.parts ∧ (c.pairs = true → c.parts % 2 = 0)) : JAt d (bump1 s) true q.behind := by
  obtain ⟨h1, h2, h3, _⟩ := hq
  refine ⟨h1, h2, by rw [bump_maps]; exact h3, ?_, ?_⟩
  · show (if q.maps = [] then (6 : Int) else 5) = _
    rw [h3]
    rcases hv with rfl | ⟨c, r, rfl, hf, hroom, hpar⟩
    · rfl
    · have hp := hf.parts
      rw [if_neg (by simp)]
      simp only [bump1, nextS, nextJ]
      rw [if_neg (by omega), if_neg]
      rintro ⟨a, b⟩
      have := hpar a
      omega
  · cases s <;> exact hr

theorem value_leaf {q : Js} (hn : q.next = 0 ∨ q.next = 1) {s : List Cont} {e : Ev} (hl : DLeaf e) : q.token (bodyK s e) = (some (openEv e), q.behind) := by
  have hv : (bodyK s e).kind ≠ 58 ∧ (bodyK s e).kind ≠ 44 ∧ (bodyK s e).kind ≠ 93 ∧ (bodyK s e).kind ≠ 125 := by
    have hk : (bodyK s e).kind = 48 ∨ (bodyK s e).kind = 102 ∨ (bodyK s e).kind = 116 ∨ (bodyK s e).kind = 110 ∨ (bodyK s e).kind = 115 := by
      rcases hl with rfl | ⟨b, rfl⟩ | ⟨b, m, hm, rfl⟩ | ⟨t, ht, rfl⟩
      · exact Or.inl rfl
      · cases b
        · exact Or.inr (Or.inl rfl)
        · exact Or.inr (Or.inr (Or.inl rfl))
      · exact Or.inr (Or.inr (Or.inr (Or.inl rfl)))
      · exact Or.inr (Or.inr (Or.inr (Or.inr rfl)))
    omega
  have hE : q.ends (bodyK s e) = false := by
    unfold Js.ends
    split
    · rfl
    · simp [hv.2.2.1, hv.2.2.2]
  unfold Js.token
  rw [if_neg (by simp [hv.1]), if_neg (by simp [hv.2.1]), if_neg (by simp [hE]), if_neg (by omega), if_neg (by omega)]
  rcases hl with rfl | ⟨b, rfl⟩ | ⟨b, m, hm, rfl⟩ | ⟨t, ht, rfl⟩
  · rfl
  · cases b <;> rfl
  · rfl
  · rfl

theorem value_open {q : Js} (hn : q.next = 0 ∨ q.next = 1) {s : List Cont} (m : Bool) (n : Nat) (hd : (q.maps.length : Int) ≠ q.depth) : q.token (bodyK s (beginEv m n)) = (some (openEv (beginEv m n)), { q with maps := m :: q.maps, next := if m = true then 2 else 1 }) := by
  cases m
  all_goals
    unfold Js.token
    have hE : ∀ m : Bool, q.ends (bodyK s (beginEv m n)) = false := by
      intro m
      unfold Js.ends
      split
      · rfl
      · cases m <;> rfl
    rw [if_neg (by rintro ⟨a, _⟩; cases a), if_neg (by rintro ⟨a, _⟩; cases a), if_neg (by rw [hE]; simp), if_neg (by rintro ⟨a, _⟩; cases a), if_neg (by omega)]
    unfold Js.value
    rw [if_pos (by first | exact Or.inl rfl | exact Or.inr rfl), if_neg hd]
    rfl

theorem js_part {d : Int} {s : List Cont} {dn : Bool} {p : Js} (h : JAt d s dn p) (hdn : s = [] → dn = false) {e : Ev} (hok : WOk s e) (hdep : ((wNext s e).length : Int) ≤ d) :
    ∃ q, p.toks (partK s e) = ([openEv e], q) ∧ JAt d (wNext s e) true q := by
  unfold partK
  have hleaf : ∀ {e : Ev}, DLeaf e → e.kind ≠ 7 := by
    intro e hl h7
    rcases hl with rfl | ⟨b, rfl⟩ | ⟨b, m, hm, rfl⟩ | ⟨t, ht, rfl⟩ <;> cases h7
  obtain ⟨_, ⟨hl, hv⟩ | ⟨⟨t, ht, rfl⟩, hk⟩ | ⟨⟨m, n, hn, rfl⟩, hv⟩ | ⟨rfl, hE⟩⟩ := hok
  · obtain ⟨q, h1, h2⟩ := sep_value h hdn (hleaf hl) hv
    have hb := behind_at h2 hv h.rest
    rw [js_toks_append _ _ _ (by rw [h1]; exact h2.1), h1]
    simp only [List.nil_append]
    have ht := value_leaf h2.2.2.2 (s := s) hl
    refine ⟨q.behind, ?_, ?_⟩
    · rw [toks_one (ev := [openEv e]) (q := q.behind) (by rw [ht]; rfl) (by rw [ht]) hb.e]
    · rw [next_leaf hl]; exact hb
  · -- a key
    obtain ⟨c, r, rfl, hf, hroom, hp, hpar⟩ := hk
    obtain ⟨l, depth, maps, next, e0⟩ := p
    obtain ⟨h1, h2, h3, h4, h5⟩ := h
    obtain ⟨pairs, count, parts⟩ := c
    simp only at h1 h2 h3 h4 hp hpar
    subst h1 h2 h3 h4
    obtain rfl : pairs = true := hp
    have hp0 := hf.parts
    simp only at hp0
    have hw : wNext (⟨true, count, parts⟩ :: r) (evText t) = ⟨true, count, parts + 1⟩ :: r := rfl
    rw [hw]
    have hnx : nextS (⟨true, count, parts + 1⟩ :: r) true = 4 := by
      simp only [nextS, nextJ]
      rw [if_neg (by omega), if_pos ⟨trivial, by omega⟩]
    have hJ : JAt depth (⟨true, count, parts + 1⟩ :: r) true ⟨l, depth, true :: r.map Cont.pairs, 4, 0⟩ := ⟨rfl, rfl, rfl, hnx.symm, h5⟩
    have hsep : sepJ (⟨true, count, parts⟩ :: r) (evText t) = if parts = 0 then [] else [44] := by
      unfold sepJ
      rw [if_neg (by show ¬ (3 : Int) = 7; decide)]
      simp only []
      by_cases h0 : parts = 0
      · rw [if_pos h0, if_pos h0]
      · rw [if_neg h0, if_neg h0, if_neg (by rintro ⟨_, b⟩; omega)]
    rw [hsep]
    refine ⟨_, ?_, hJ⟩
    by_cases h0 : parts = 0
    · subst h0
      rfl
    · rw [if_neg h0]
      have : nextS (⟨true, count, parts⟩ :: r) dn = 5 := by
        simp only [nextS, nextJ]
        rw [if_neg h0, if_neg (by rintro ⟨_, b⟩; omega)]
      rw [this]
      rfl
  · obtain ⟨q, h1, h2⟩ := sep_value h hdn (e := beginEv m n) (by cases m <;> (intro h; cases h)) hv
    have hb := behind_at h2 hv h.rest
    rw [js_toks_append _ _ _ (by rw [h1]; exact h2.1), h1]
    simp only [List.nil_append]
    rw [next_open] at hdep ⊢
    have hdp : (q.maps.length : Int) ≠ q.depth := by
      rw [h2.2.1, h2.2.2.1, List.length_map]
      rw [List.length_cons, bump1_len] at hdep
      omega
    have ht := value_open h2.2.2.2 (s := s) m n hdp
    refine ⟨_, toks_one (ev := [openEv (beginEv m n)]) (q := { q with maps := m :: q.maps, next := if m = true then 2 else 1 }) (by rw [ht]; rfl) (by rw [ht]) h2.1, h2.1, h2.2.1, ?_, ?_, ?_⟩
    · show m :: q.maps = _
      rw [h2.2.2.1, ← bump_maps s]
      rfl
    · show (if m = true then (2 : Int) else 1) = _
      cases m <;> rfl
    · show ∀ c ∈ bump1 s, _
      rcases hv with rfl | ⟨c, r, rfl, hf, hroom, hpar⟩
      · intro c hc; cases hc
      · intro x hx
        have hp0 := hf.parts
        rcases List.mem_cons.1 hx with rfl | hx
        · refine ⟨by simp only []; omega, fun hp => ?_⟩
          have := hpar hp
          simp only [] at this ⊢
          omega
        · exact h.rest x hx
  · -- an end
    obtain ⟨c, r, rfl, hf, hroom⟩ := hE
    obtain ⟨l, depth, maps, next, e0⟩ := p
    obtain ⟨h1, h2, h3, h4, h5⟩ := h
    obtain ⟨pairs, count, parts⟩ := c
    simp only at h1 h2 h3 h4 hroom
    subst h1 h2 h3 h4
    have hp0 := hf.parts
    simp only at hp0
    have hsep : sepJ (⟨pairs, count, parts⟩ :: r) evEnd = [] := rfl
    rw [hsep, next_end]
    have hq : JAt depth r true (Js.behind ⟨l, depth, r.map Cont.pairs, nextS (⟨pairs, count, parts⟩ :: r) dn, 0⟩) := by
      refine ⟨rfl, rfl, rfl, ?_, fun c hc => h5 c (List.mem_of_mem_tail hc)⟩
      show (if r.map Cont.pairs = [] then (6 : Int) else 5) = _
      cases r with
      | nil => rfl
      | cons c r =>
        rw [if_neg (by simp)]
        obtain ⟨a, b⟩ := h5 c (List.mem_cons_self ..)
        simp only [nextS, nextJ]
        rw [if_neg (by omega), if_neg]
        rintro ⟨x, y⟩
        have := b x
        omega
    have hen : Js.ends ⟨l, depth, pairs :: r.map Cont.pairs, nextS (⟨pairs, count, parts⟩ :: r) dn, 0⟩ (bodyK (⟨pairs, count, parts⟩ :: r) evEnd) = true := by
      cases pairs
      · have hb : bodyK (⟨false, count, parts⟩ :: r) evEnd = Tok.of 93 := rfl
        rw [hb]
        simp only [Js.ends, Tok.of, nextS, nextJ]
        by_cases h0 : parts = 0 <;> simp [h0]
      · have hb : bodyK (⟨true, count, parts⟩ :: r) evEnd = Tok.of 125 := rfl
        rw [hb]
        have h2 : parts % 2 = 0 := by
          simp only [roomOf, if_true] at hroom
          omega
        simp only [Js.ends, Tok.of, nextS, nextJ]
        by_cases h0 : parts = 0 <;> simp [h0, h2]
    have htk : Js.token ⟨l, depth, pairs :: r.map Cont.pairs, nextS (⟨pairs, count, parts⟩ :: r) dn, 0⟩ (bodyK (⟨pairs, count, parts⟩ :: r) evEnd) = (some evEnd, Js.behind ⟨l, depth, r.map Cont.pairs, nextS (⟨pairs, count, parts⟩ :: r) dn, 0⟩) := by
      have hk : (bodyK (⟨pairs, count, parts⟩ :: r) evEnd).kind ≠ 58 ∧ (bodyK (⟨pairs, count, parts⟩ :: r) evEnd).kind ≠ 44 := by
        cases pairs
        · exact ⟨by show (93 : Int) ≠ 58; decide, by show (93 : Int) ≠ 44; decide⟩
        · exact ⟨by show (125 : Int) ≠ 58; decide, by show (125 : Int) ≠ 44; decide⟩
      unfold Js.token
      rw [if_neg (by simp [hk.1]), if_neg (by simp [hk.2]), if_pos hen]
      rfl
    refine ⟨_, ?_, hq⟩
    have := toks_one (p := ⟨l, depth, pairs :: r.map Cont.pairs, nextS (⟨pairs, count, parts⟩ :: r) dn, 0⟩) (t := bodyK (⟨pairs, count, parts⟩ :: r) evEnd) (ev := [evEnd]) (q := Js.behind ⟨l, depth, r.map Cont.pairs, nextS (⟨pairs, count, parts⟩ :: r) dn, 0⟩) (by rw [htk]; rfl) (by rw [htk]) rfl
    exact this

theorem js_tr {d : Int} {s t : List Cont} {l : List Ev} (h : Tr 1 s l t) : ∀ {dn : Bool} {p : Js}, JAt d s dn p → (s = [] → l ≠ [] → dn = false) → (∀ i, ((wAfter s (l.take i)).length : Int) ≤ d) →
    ∃ q dn', p.toks (toksJ s l) = (l.map openEv, q) ∧ JAt d t dn' q ∧ (l ≠ [] → dn' = true) := by
  induction h with
  | nil => intro dn p hp _ _; exact ⟨p, dn, rfl, hp, fun h => absurd rfl h⟩
  | @cons s t e r hok hn hr ih =>
    intro dn p hp hdn hd
    obtain ⟨q, h1, h2⟩ := js_part hp (fun h => hdn h (by simp)) hok (by simpa [wAfter] using hd 1)
    obtain ⟨q2, dn2, h3, h4, h5⟩ := ih h2 (fun hs hne => by
      have := hn hne
      rw [hs] at this
      simp at this) (fun i => by simpa [wAfter] using hd (i + 1))
    refine ⟨q2, true, ?_, ?_, fun _ => rfl⟩
    · have e1 : toksJ s (e :: r) = partK s e ++ toksJ (wNext s e) r := rfl
      rw [e1, js_toks_append _ _ _ (by rw [h1]; exact h2.e), h1]
      simp only []
      rw [h3]
      rfl
    · cases r with
      | nil =>
        cases hr
        simp only [toksJ, Js.toks, List.map_nil, Prod.mk.injEq, true_and] at h3
        subst h3
        exact h2
      | cons x r => rw [← h5 (by simp)]; exact h4
end Go.Tru

namespace Go.Tru

/-! ### its texts are UTF-8 -/

theorem tab_clean (n : Nat) {c : Chk} (h : c.Clean) : (c.run (docTab n)).Clean := by
  have key : ∀ r : Int, isRune r → enc r = docTab n → (c.run (docTab n)).Clean := fun r hr he => he ▸ Chk.run_enc_clean h hr
  match n with
  | 0 => exact key 97 (Or.inl (by omega)) (by decide)
  | 1 => exact key 34 (Or.inl (by omega)) (by decide)
  | 2 => exact key 92 (Or.inl (by omega)) (by decide)
  | 3 => exact key 10 (Or.inl (by omega)) (by decide)
  | 4 => exact key 233 (Or.inl (by omega)) (by decide)
  | 5 => exact key 1 (Or.inl (by omega)) (by decide)
  | 6 => exact key 119070 (Or.inr (by omega)) (by decide)
  | n + 7 => exact key 122 (Or.inl (by omega)) (by show enc 122 = [122]; decide)

theorem crun_append (c : Chk) (a b : List UInt8) : c.run (a ++ b) = (c.run a).run b := by
  induction a generalizing c with
  | nil => rfl
  | cons x a ih => rw [List.cons_append, Chk.run_cons, Chk.run_cons, ih]

theorem go_clean (x : Nat) : ∀ k {c : Chk}, c.Clean → (c.run (textGo x k)).Clean
  | 0, c, h => h
  | k + 1, c, h => by
    rw [textGo, crun_append]
    exact go_clean x k (tab_clean _ h)

theorem docText_utf8 (x : Nat) : utf8 (docText x).data.toList = true := by
  have e : (docText x).data.toList = textGo x (x % 8) := by simp [docText]
  rw [e]
  exact Chk.clean_whole.2 (go_clean x _ Chk.clean_zero)

theorem ok_text {t : ByteArray} (h : utf8 t.data.toList = true) : TextOk (evText t) := fun _ => h
theorem ok_other {e : Ev} (h : e.kind ≠ 3) : TextOk e := fun h3 => absurd h3 h

theorem leaf_text (x : Nat) : ∀ p ∈ docLeaf x, TextOk p := by
  intro p hp
  unfold docLeaf at hp
  repeat' split at hp
  all_goals
    rw [List.mem_singleton] at hp
    subst hp
  · exact ok_other (by intro h; cases h)
  · exact ok_other (by intro h; cases h)
  · exact ok_other (by intro h; cases h)
  · exact ok_text (docText_utf8 x)
  · exact ok_text rfl
  · exact ok_other (by intro h; cases h)

theorem doc_text : ∀ k l, ∀ p ∈ (docItem k l).1, TextOk p
  | 0, l => leaf_text _
  | k + 1, l => by
    intro p hp
    unfold docItem at hp
    by_cases h5 : (nx l).1 % 8 < 5
    · rw [if_pos h5] at hp; exact leaf_text _ p hp
    rw [if_neg h5] at hp
    by_cases h6 : (nx l).1 % 8 = 5
    · rw [if_pos h6] at hp
      simp only [List.cons_append, List.mem_cons, List.mem_append, List.not_mem_nil, or_false] at hp
      rcases hp with rfl | hp | rfl
      · exact ok_other (by intro h; cases h)
      · exact rep_parts (fun l => doc_text k l) _ _ p hp
      · exact ok_other (by intro h; cases h)
    · rw [if_neg h6] at hp
      simp only [List.cons_append, List.mem_cons, List.mem_append, List.not_mem_nil, or_false] at hp
      rcases hp with rfl | hp | rfl
      · exact ok_other (by intro h; cases h)
      · refine rep_parts (P := TextOk) (fun l q hq => ?_) _ _ p hp
        simp only [docPair, List.mem_cons] at hq
        rcases hq with rfl | hq
        · exact ok_text (docText_utf8 _)
        · exact doc_text k _ q hq
      · exact ok_other (by intro h; cases h)

/-! ### how deep it is -/

theorem net_take_app {a b : List Ev} {m : Int} (h0 : net a = 0) (ha : ∀ i, net (a.take i) ≤ m) (hb : ∀ i, net (b.take i) ≤ m) : ∀ i, net ((a ++ b).take i) ≤ m := by
  intro i
  rw [List.take_append, net_append]
  by_cases hi : i ≤ a.length
  · rw [show i - a.length = 0 by omega]
    have := ha i
    simp only [List.take_zero, net]
    omega
  · rw [List.take_of_length_le (by omega), h0]
    have := hb (i - a.length)
    omega

theorem rep_net {f : List Int → List Ev × List Int} {m : Int} (hm : 0 ≤ m) {c : Nat} (hI : ∀ l, Items c (f l).1) (h : ∀ l i, net ((f l).1.take i) ≤ m) : ∀ n l i, net ((rep f n l).1.take i) ≤ m
  | 0, l, i => by simp [rep, net]; exact hm
  | n + 1, l, i => net_take_app (items_net (hI l)) (h l) (rep_net hm hI h n _) i

theorem net_wrap {p : Ev} (hp : isOpen p = true) {l : List Ev} {m : Int} (h0 : net l = 0) (h : ∀ i, net (l.take i) ≤ m) (hm : 0 ≤ m) : ∀ i, net ((p :: l ++ [evEnd]).take i) ≤ m + 1 := by
  intro i
  cases i with
  | zero => simp [net]; omega
  | succ i =>
    rw [List.cons_append, List.take_succ_cons]
    simp only [net, hp, if_true]
    have := net_take_app (b := [evEnd]) h0 h (fun j => by
      cases j with
      | zero => simpa [net] using hm
      | succ j => simp [net, evEnd, isOpen]; omega) i
    omega

theorem leaf_net (x : Nat) (i : Nat) : net ((docLeaf x).take i) ≤ 0 := by
  have h := items_leaf x
  have h0 : ∀ l : List Ev, l.length = 1 → net l = 0 → net (l.take i) ≤ 0 := by
    intro l hl hn
    match l, hl with
    | [p], _ =>
      cases i with
      | zero => simp [net]
      | succ i => simp only [List.take_succ_cons, List.take_nil]; omega
  exact h0 _ (docLeaf_len x) (items_net h)

theorem doc_net : ∀ (k : Nat) (l : List Int) (i : Nat), net ((docItem k l).1.take i) ≤ k
  | 0, l, i => leaf_net _ i
  | k + 1, l, i => by
    unfold docItem
    by_cases h5 : (nx l).1 % 8 < 5
    · rw [if_pos h5]
      have := leaf_net (nx l).1 i
      simp only []
      omega
    rw [if_neg h5]
    by_cases h6 : (nx l).1 % 8 = 5
    · rw [if_pos h6]
      have := net_wrap (p := evArr (((nx l).1 / 8 % 4 : Nat) : Int)) (by simp [isOpen, evArr]) (items_net (items_rep (items_doc k) ((nx l).1 / 8 % 4) (nx l).2)) (rep_net (m := k) (by omega) (items_doc k) (doc_net k) ((nx l).1 / 8 % 4) (nx l).2) (by omega) i
      exact this
    · rw [if_neg h6]
      have hI : ∀ l, Items 2 (docPair (docItem k) l).1 := fun l => Items.leaf (by simp [isOpen, evText]) (by simp [evText]) (items_doc k _)
      have hN : ∀ l i, net ((docPair (docItem k) l).1.take i) ≤ k := by
        intro l i
        cases i with
        | zero => simp [net]
        | succ i =>
          simp only [docPair, List.take_succ_cons, net]
          have := doc_net k (nx l).2 i
          simp [isOpen, evText]
          omega
      have := net_wrap (p := evMap (((nx l).1 / 8 % 3 : Nat) : Int)) (by simp [isOpen, evMap]) (items_net (items_rep hI ((nx l).1 / 8 % 3) (nx l).2)) (rep_net (m := k) (by omega) hI hN ((nx l).1 / 8 % 3) (nx l).2) (by omega) i
      exact this

theorem wnext_net {s : List Cont} {e : Ev} (h : WOk s e) : ((wNext s e).length : Int) = s.length + net [e] := by
  obtain ⟨_, ⟨hl, _⟩ | ⟨⟨t, ht, rfl⟩, _⟩ | ⟨⟨m, n, hn, rfl⟩, _⟩ | ⟨rfl, c, r, rfl, _⟩⟩ := h
  · rw [next_leaf hl, bump1_len]
    rcases hl with rfl | ⟨b, rfl⟩ | ⟨b, m, hm, rfl⟩ | ⟨t, ht, rfl⟩ <;> simp [net, isOpen, evNull, evBool, evInt, evText]
  · rw [next_leaf (Or.inr (Or.inr (Or.inr ⟨t, ht, rfl⟩))), bump1_len]
    simp [net, isOpen, evText]
  · rw [next_open, List.length_cons, bump1_len]
    cases m <;> simp [net, isOpen, beginEv, evArr, evMap]
  · rw [next_end]
    simp [net, isOpen, evEnd]
    omega

theorem after_net {n : Nat} {s t : List Cont} {l : List Ev} (h : Tr n s l t) : ∀ i, ((wAfter s (l.take i)).length : Int) = s.length + net (l.take i) := by
  induction h with
  | nil => intro i; simp [wAfter, net]
  | @cons s t e r hok hn hr ih =>
    intro i
    cases i with
    | zero => simp [wAfter, net]
    | succ i =>
      have h1 := ih i
      have h2 := wnext_net hok
      have e1 : wAfter s ((e :: r).take (i + 1)) = wAfter (wNext s e) (r.take i) := by simp [wAfter]
      have e2 : net ((e :: r).take (i + 1)) = net [e] + net (r.take i) := by simp [net]
      rw [e1, e2, h1, h2]
      omega

/-! ### what the Parser tells of it -/

theorem doc_ne (k : Nat) (l : List Int) : (docItem k l).1 ≠ [] := by
  intro h
  have := items_doc k l
  rw [h] at this
  cases this

theorem doc_js (xs : List Int) (dep : Nat) (hd : dep ≤ 16) : ∃ q, (Js.new dep).toks (toksJ [] (doc xs dep)) = ((doc xs dep).map openEv, q) ∧ q.e = 0 ∧ q.next = 6 := by
  have htr := doc_tr xs dep hd
  obtain ⟨q, dn, h1, h2, h3⟩ := js_tr htr (jat_new dep) (fun _ _ => rfl) (fun i => by
    rw [after_net htr i]
    have := doc_net dep xs i
    simpa [doc] using this)
  refine ⟨q, h1, h2.e, ?_⟩
  rw [h2.next, h3 (doc_ne dep xs)]
  rfl

theorem js_back {ini pre post : List UInt8} (hi : ∀ x ∈ ini, isBlank x.toNat = true) (hpre : ∀ x ∈ pre, isBlank x.toNat = true) (hpost : ∀ x ∈ post, isBlank x.toNat = true) (xs : List Int) (dep : Nat) (hd : 1 ≤ dep ∧ dep ≤ 16) :
    jsAll (ini ++ textJ pre post [] (doc xs dep)) dep = ((doc xs dep).map openEv, 0) := by
  obtain ⟨L, ts, pd, h1, h2, h3⟩ := text_run hpre hpost (doc_tr xs dep hd.2) (LexAt.of (L := Lex.new) ⟨rfl, rfl⟩) (fun h => absurd rfl h) (doc_text dep xs)
  obtain ⟨L2, f1, f2⟩ := h2.fin
  obtain ⟨q, q1, q2, q3⟩ := doc_js xs dep hd.2
  have hr : Lex.new.run (ini ++ textJ pre post [] (doc xs dep)) = (L, ts) := by
    rw [Lex.run_append, rest_blanks ⟨rfl, rfl⟩ ini hi]
    simp only []
    rw [h1]
    rfl
  rw [List.nil_append] at h3
  rw [jsAll_toks ⟨by omega, by omega⟩ hr h2.1 f1 f2 (by rw [h3, q1]; exact q2) (by rw [h3, q1]; exact q3), h3, q1]
end Go.Tru

namespace Go.Tru

/-! ### tokens -/

theorem tok110 (p : Js) (x : ByteArray) (g : Bool) (m : Nat) : (p.token ⟨110, x, g, m⟩).2 = if p.next ≠ 0 ∧ p.next ≠ 1 then { p with e := 2 } else p.behind := by
  have hE : p.ends ⟨110, x, g, m⟩ = false := by
    unfold Js.ends
    split
    · rfl
    · simp
  unfold Js.token
  rw [if_neg (by simp), if_neg (by simp), if_neg (by simp [hE]), if_neg (by simp)]
  by_cases h : p.next ≠ 0 ∧ p.next ≠ 1
  · rw [if_pos h, if_pos h]; rfl
  · rw [if_neg h, if_neg h]
    unfold Js.value
    rw [if_neg (by simp), if_neg (by simp), if_pos rfl]

theorem tok6 {p : Js} (h : p.next = 6) (t : Tok) : (p.token t).2.e = 2 := by
  have hE : p.ends t = false := by
    unfold Js.ends
    split
    · rfl
    · simp [h]
  unfold Js.token
  rw [if_neg (by omega), if_neg (by omega), if_neg (by simp [hE]), if_neg (by omega), if_pos (by omega)]
  rfl

/-- more tokens without an error: it was not at its end -/
theorem toks_next {p : Js} {t : Tok} {l : List Tok} (h : (p.toks (t :: l)).2.e = 0) : p.next ≠ 6 := by
  intro h6
  have ht := tok6 h6 t
  unfold Js.toks at h
  rw [if_pos (by rw [ht]; decide), ht] at h
  exact absurd h (by decide)

/-! ### numbers -/

theorem between_num {L : Lex} (hs : L.state ≠ 2) {b : Int} (h : (L.between b).1.state = 2) : (b = 45 ∨ isDig b = true) ∧ (L.between b).1.n = Num.new.after b := by
  unfold Lex.between at h ⊢
  by_cases h1 : isBlank b = true
  · rw [if_pos h1] at h; exact absurd h hs
  rw [if_neg h1] at h ⊢
  by_cases h2 : isMark b = true
  · rw [if_pos h2] at h; exact absurd h hs
  rw [if_neg h2] at h ⊢
  by_cases h3 : b = 34
  · rw [if_pos h3] at h; exact absurd (show (1 : Int) = 2 from h) (by decide)
  rw [if_neg h3] at h ⊢
  by_cases h4 : b = 45 ∨ isDig b = true
  · rw [if_pos h4]; exact ⟨h4, rfl⟩
  rw [if_neg h4] at h
  repeat' split at h
  · exact absurd (show (3 : Int) = 2 from h) (by decide)
  · exact absurd (show (3 : Int) = 2 from h) (by decide)
  · exact absurd (show (3 : Int) = 2 from h) (by decide)
  · exact absurd h hs

theorem num_begun {b : Int} (h : b = 45 ∨ isDig b = true) : (b = 45 ∧ NumAt (Num.new.after b) true false false 0) ∨ ∃ g z val, NumAt (Num.new.after b) g true z val := by
  by_cases hd : isDig b = true
  · exact Or.inr ⟨_, _, _, (NumAt.new.digit hd).1⟩
  · have hb : b = 45 := by rcases h with h | h; exact h; exact absurd h hd
    subst hb
    exact Or.inl ⟨rfl, NumAt.new.sign.1⟩

theorem step_e {L : Lex} {b : Int} (h : (L.step b).1.e = 0) : L.e = 0 := by
  unfold Lex.step at h
  by_cases he : L.e = 0
  · exact he
  · rw [if_pos he] at h; exact h

theorem step_turn {L : Lex} {b : Int} (he : L.e = 0) : (L.step b).1 = (L.turn b).1 := by
  unfold Lex.step
  rw [if_neg (by simp [he])]

/-- within a number: just a minus, or digits -/
theorem num_inv : ∀ (k : Nat) (A : List UInt8), A.length = k → (Lex.new.run A).1.e = 0 → (Lex.new.run A).1.state = 2 →
    (NumAt (Lex.new.run A).1.n true false false 0 ∧ A.getLast? = some 45) ∨ ∃ g z val, NumAt (Lex.new.run A).1.n g true z val
  | 0, A, hk, _, hs => by
    obtain rfl := List.eq_nil_of_length_eq_zero hk
    exact absurd hs (by decide)
  | k + 1, A, hk, h0, hs => by
    have hne : A ≠ [] := by intro h; rw [h] at hk; cases hk
    obtain ⟨M, b, rfl⟩ : ∃ M b, A = M ++ [b] := ⟨A.dropLast, A.getLast hne, (List.dropLast_concat_getLast hne).symm⟩
    have hkM : M.length = k := by simpa using hk
    have ih := num_inv k M hkM
    have hlast : (M ++ [b]).getLast? = some b := by simp
    rw [hlast]
    have e1 : (Lex.new.run (M ++ [b])).1 = ((Lex.new.run M).1.step b.toNat).1 := by rw [Lex.run_append, Lex.run_one]
    rw [e1] at h0 hs ⊢
    generalize (Lex.new.run M).1 = L at h0 hs ih ⊢
    have hL := step_e h0
    have ih := ih hL
    rw [step_turn hL] at h0 hs ⊢
    have key : ∀ {N : Lex}, N.state ≠ 2 → (N.between b.toNat).1.state = 2 → (NumAt (N.between b.toNat).1.n true false false 0 ∧ some b = some (45 : UInt8)) ∨ ∃ g z val, NumAt (N.between b.toNat).1.n g true z val := by
      intro N hN hb
      obtain ⟨h1, h2⟩ := between_num hN hb
      rw [h2]
      rcases num_begun h1 with ⟨h3, h4⟩ | h4
      · refine Or.inl ⟨h4, ?_⟩
        congr 1
        exact u8_lit.2 h3
      · exact Or.inr h4
    unfold Lex.turn at h0 hs ⊢
    by_cases c1 : L.state = 1
    · rw [if_pos c1] at hs
      unfold Lex.text at hs
      split at hs
      · exact absurd (show (0 : Int) = 2 from hs) (by decide)
      · simp only [] at hs
        omega
    rw [if_neg c1] at h0 hs ⊢
    by_cases c3 : L.state = 3
    · rw [if_pos c3] at hs
      unfold Lex.word at hs
      repeat' split at hs
      · simp only [] at hs; omega
      · exact absurd (show (0 : Int) = 2 from hs) (by decide)
      · simp only [] at hs; omega
      · simp only [] at hs; omega
    rw [if_neg c3] at h0 hs ⊢
    by_cases c2 : L.state = 2
    · rw [if_pos c2] at h0 hs ⊢
      have ih := ih c2
      unfold Lex.number at h0 hs ⊢
      by_cases ht : L.n.took b.toNat = true ∨ (L.n.after b.toNat).e ≠ 0
      · rw [if_pos ht] at h0 ⊢
        simp only [] at h0 ⊢
        have htk : L.n.took b.toNat = true := by
          rcases ht with h | h
          · exact h
          · exact absurd h0 h
        rcases ih with ⟨hn, _⟩ | ⟨g, z, val, hn⟩
        · have hd : isDig b.toNat = true := by
            unfold Num.took at htk
            rw [hn.e, hn.zero, hn.minus, hn.digits] at htk
            simpa using htk
          exact Or.inr ⟨_, _, _, (hn.digit hd).1⟩
        · have hd : isDig b.toNat = true ∧ z = false := by
            unfold Num.took at htk
            rw [hn.e, hn.zero, hn.minus, hn.digits] at htk
            simpa using htk
          obtain ⟨hd, rfl⟩ := hd
          exact Or.inr ⟨_, _, _, (hn.digit hd).1⟩
      · rw [if_neg ht] at h0 hs ⊢
        by_cases he : (Lex.ended { L with n := L.n.after b.toNat, e := 0 }).1.e ≠ 0
        · rw [if_pos he] at h0
          exact absurd h0 he
        · rw [if_neg he] at h0 hs ⊢
          simp only [] at h0 hs ⊢
          refine key ?_ hs
          unfold Lex.ended at he ⊢
          split
          · rename_i h
            rw [if_pos h] at he
            exact absurd h he
          · simp only []
            decide
    · rw [if_neg c2] at h0 hs ⊢
      exact key c2 hs

theorem res_more {g : Bool} {v w : Nat} (h : v ≤ w) (hr : (resOf g v).2.2 ≠ 0) : (resOf g w).2.2 ≠ 0 := by
  unfold resOf at hr ⊢
  cases g
  · simp only [Bool.false_eq_true, if_false] at hr ⊢
    by_cases h1 : v < 18446744073709551616
    · rw [if_pos h1] at hr; exact absurd rfl hr
    · rw [if_neg (by omega)]; decide
  · simp only [if_true] at hr ⊢
    by_cases h0 : v = 0
    · rw [if_pos h0] at hr; exact absurd rfl hr
    rw [if_neg h0] at hr
    by_cases h1 : v ≤ 18446744073709551616
    · rw [if_pos h1] at hr; exact absurd rfl hr
    · rw [if_neg (by omega), if_neg (by omega)]; decide

/-- a number that is too great stays so -/
theorem num_over : ∀ (B : List UInt8) {L : Lex} {g z : Bool} {val : Nat}, L.e = 0 → L.state = 2 → NumAt L.n g true z val → (resOf g val).2.2 ≠ 0 → (L.run B).1.e ≠ 0 ∨ (L.run B).1.state = 2
  | [], _, _, _, _, _, hs, _, _ => Or.inr hs
  | b :: B, L, g, z, val, h0, hs, hn, hr => by
    have e1 : (L.run (b :: B)).1 = ((L.step b.toNat).1.run B).1 := rfl
    rw [e1]
    have e2 : (L.step b.toNat).1 = (L.number b.toNat).1 := by
      rw [step_turn h0]
      unfold Lex.turn
      rw [if_neg (by omega), if_neg (by omega), if_pos hs]
    rw [e2]
    have bad : ∀ {N : Lex}, N.e ≠ 0 → (N.run B).1.e ≠ 0 := fun h => by rw [Lex.run_bad h]; exact h
    by_cases hd : isDig b.toNat = true
    · cases z
      · obtain ⟨d1, d2, d3⟩ := hn.digit hd
        unfold Lex.number
        rw [if_pos (Or.inl d2)]
        exact num_over B (g := g) (val := val * 10 + ((b.toNat : Int) - 48).toNat) d3 hs d1 (res_more (by omega) hr)
      · obtain ⟨d1, d2⟩ := hn.zeroDigit hd
        left
        unfold Lex.number
        rw [if_pos (Or.inr (by rw [d1]; decide))]
        exact bad (by show (L.n.after b.toNat).e ≠ 0; rw [d1]; decide)
    · have hd' : isDig b.toNat = false := by simpa using hd
      by_cases hf : (b.toNat : Int) = 46 ∨ (b.toNat : Int) = 101 ∨ (b.toNat : Int) = 69
      · obtain ⟨d1, d2⟩ := hn.float hf
        left
        unfold Lex.number
        rw [if_pos (Or.inr (by rw [d1]; decide))]
        exact bad (by show (L.n.after b.toNat).e ≠ 0; rw [d1]; decide)
      · obtain ⟨d1, d2⟩ := hn.stop hd' hf
        left
        unfold Lex.number
        rw [if_neg (by rw [d1, d2, hn.e]; simp), d1]
        have hres : L.n.result.2.2 ≠ 0 := by rw [hn.result]; exact hr
        have he : Lex.ended { L with n := L.n, e := 0 } = ({ L with n := L.n, e := L.n.result.2.2 }, []) := by
          unfold Lex.ended
          rw [if_pos hres]
        rw [he, if_pos hres]
        exact bad hres

/-- from within a number on to a rest: the first token is a number -/
theorem num_first : ∀ (B : List UInt8) {L : Lex}, L.e = 0 → L.state = 2 → (L.run B).1.e = 0 → (L.run B).1.state ≠ 2 → ∃ g m r, (L.run B).2 = ⟨110, ⟨#[]⟩, g, m⟩ :: r
  | [], _, _, hs, _, hs2 => absurd hs hs2
  | b :: B, L, h0, hs, he, hs2 => by
    have e1 : L.run (b :: B) = (((L.step b.toNat).1.run B).1, (L.step b.toNat).2 ++ ((L.step b.toNat).1.run B).2) := rfl
    rw [e1] at he hs2 ⊢
    have hse : (L.step b.toNat).1.e = 0 := by
      by_cases h : (L.step b.toNat).1.e = 0
      · exact h
      · rw [Lex.run_bad h] at he; exact absurd he h
    have e2 : L.turn b.toNat = L.number b.toNat := by
      unfold Lex.turn
      rw [if_neg (by omega), if_neg (by omega), if_pos hs]
    have e3 : L.step b.toNat = L.number b.toNat := by
      have hte : (L.turn b.toNat).1.e = 0 := by rw [← step_turn h0]; exact hse
      unfold Lex.step
      rw [if_neg (by simp [h0]), if_neg (by simp [hte]), e2]
    rw [e3] at he hs2 hse ⊢
    unfold Lex.number at he hs2 hse ⊢
    by_cases ht : L.n.took b.toNat = true ∨ (L.n.after b.toNat).e ≠ 0
    · rw [if_pos ht] at he hs2 hse ⊢
      exact num_first B (L := { L with n := L.n.after b.toNat, e := (L.n.after b.toNat).e }) hse hs he hs2
    · rw [if_neg ht] at he hs2 hse ⊢
      by_cases hn : (Lex.ended { L with n := L.n.after b.toNat, e := 0 }).1.e ≠ 0
      · rw [if_pos hn] at hse
        exact absurd hse hn
      · rw [if_neg hn]
        have hres : ¬ (L.n.after b.toNat).result.2.2 ≠ 0 := by
          intro h
          apply hn
          unfold Lex.ended
          rw [if_pos h]
          exact h
        have e4 : Lex.ended { L with n := L.n.after b.toNat, e := 0 } = ({ L with n := L.n.after b.toNat, e := 0, state := 0 }, [⟨110, ⟨#[]⟩, (L.n.after b.toNat).result.1, (L.n.after b.toNat).result.2.1⟩]) := by
          unfold Lex.ended
          rw [if_neg hres]
        rw [e4]
        exact ⟨_, _, _, rfl⟩

/-! ### cuts -/

/-- the error at the end of all, its tokens all said -/
theorem fin_e {q qq : Js} {L N : Lex} {tk : List Tok} {ev : List Ev} (he : q.e = 0) (hf : L.fin = (N, tk)) (ht : q.toks tk = (ev, qq)) : (Js.fin { q with l := L }).2.e =
    if qq.e ≠ 0 then qq.e else if N.e ≠ 0 then N.e else if qq.next ≠ 6 then 3 else 0 := by
  have hp : Js.parts { q with l := N } tk N.e = if qq.e ≠ 0 then (ev, { qq with l := N }) else (ev, { qq with l := N, e := N.e }) := by
    unfold Js.parts
    rw [js_toks_l N tk q, ht]
  have hp' : Js.parts { l := N, depth := q.depth, maps := q.maps, next := q.next, e := q.e } tk N.e = if qq.e ≠ 0 then (ev, { qq with l := N }) else (ev, { qq with l := N, e := N.e }) := hp
  unfold Js.fin
  rw [if_neg (by simp [he])]
  simp only [hf]
  rw [hp']
  by_cases h1 : qq.e ≠ 0
  · rw [if_pos h1, if_pos h1, if_neg (by simp; intro h; exact absurd h h1)]
  · rw [if_neg h1, if_neg h1]
    by_cases h2 : N.e ≠ 0
    · rw [if_pos h2, if_neg (by simp; intro h; exact absurd h h2)]
    · rw [if_neg h2]
      have h2' : N.e = 0 := by simpa using h2
      by_cases h3 : qq.next ≠ 6
      · rw [if_pos h3, if_pos ⟨h2', h3⟩]
      · rw [if_neg h3, if_neg (fun h => h3 h.2)]
        exact h2'

/-- a text whose last byte ends its last token, which is no number -/
structure Doc110 (d : Int) (S : List UInt8) (L' : Lex) (ts : List Tok) (es : List Ev) : Prop where
  dep : 1 ≤ d ∧ d ≤ 16
  run : Lex.new.run S = (L', ts)
  rest : L'.Rest
  toks : ((Js.new d).toks ts).1 = es
  e : ((Js.new d).toks ts).2.e = 0
  next : ((Js.new d).toks ts).2.next = 6
  ne : S ≠ []
  less : (Lex.new.run S.dropLast).2.length < ts.length
  last : ∀ t, ts.getLast? = some t → t.kind ≠ 110

theorem cut_more {d : Int} {S : List UInt8} {L' : Lex} {ts : List Tok} {es : List Ev} (h : Doc110 d S L' ts es) {A B : List UInt8} (hAB : A ++ B = S) (hB : B ≠ []) :
    (jsAll A d).2 = 3 ∨ (jsAll A d).2 = 2 ∧ A.getLast? = some 45 := by
  obtain ⟨⟨LA, tA⟩, hA⟩ : ∃ r, Lex.new.run A = r := ⟨_, rfl⟩
  obtain ⟨⟨L2, tB⟩, hBr⟩ : ∃ r, LA.run B = r := ⟨_, rfl⟩
  have hS := Lex.run_append Lex.new A B
  rw [hAB, h.run, hA] at hS
  simp only [] at hS
  rw [hBr] at hS
  simp only [Prod.mk.injEq] at hS
  obtain ⟨rfl, hts⟩ := hS
  have hLe : LA.e = 0 := by
    have := Lex.run_e (L := Lex.new) (l := A) (m := B) (by rw [hAB, h.run]; exact h.rest.1)
    rw [hA] at this
    exact this
  -- tokens lack
  have hne : tB ≠ [] := by
    intro h0
    have hl := h.less
    obtain ⟨B', b, hb⟩ : ∃ B' b, B = B' ++ [b] := ⟨B.dropLast, B.getLast hB, (List.dropLast_concat_getLast hB).symm⟩
    have hdl : S.dropLast = A ++ B' := by rw [← hAB, hb, ← List.append_assoc, List.dropLast_concat]
    rw [hdl, Lex.run_append, hA] at hl
    simp only [List.length_append] at hl
    rw [hts, h0] at hl
    simp at hl
    omega
  have ht1 : ((Js.new d).toks tA).2.e = 0 := js_toks_pre tA rfl (by rw [← hts]; exact h.e)
  have hap := js_toks_append tA tB (Js.new d) ht1
  rw [← hts] at hap
  have he := h.e
  rw [hap] at he
  simp only [] at he
  have hE := js_eat_toks A (Js.new d) LA tA rfl hA hLe ht1
  have hall : (jsAll A d).2 = (Js.fin { ((Js.new d).toks tA).2 with l := LA }).2.e := by
    unfold jsAll
    have := h.dep
    rw [if_neg (by omega), js_run_eat A _ rfl (by rw [hE]; exact ht1), hE]
  rw [hall]
  generalize ((Js.new d).toks tA).2 = q at he ht1
  obtain ⟨t0, r0, rfl⟩ : ∃ t r, tB = t :: r := by
    cases tB with
    | nil => exact absurd rfl hne
    | cons t r => exact ⟨t, r, rfl⟩
  have hn6 := toks_next he
  by_cases c0 : LA.state = 0
  · have hf : LA.fin = (LA, []) := by unfold Lex.fin; rw [if_pos (Or.inr c0)]
    rw [fin_e ht1 hf rfl, if_neg (by simp [ht1]), if_neg (by simp [hLe]), if_pos hn6]
    exact Or.inl rfl
  by_cases c2 : LA.state = 2
  · have hf : LA.fin = LA.ended := by unfold Lex.fin; rw [if_neg (by simp [hLe, c0]), if_pos c2]
    have hinv := num_inv _ A rfl (by rw [hA]; exact hLe) (by rw [hA]; exact c2)
    rw [hA] at hinv
    simp only [] at hinv
    rcases hinv with ⟨hn, hl⟩ | ⟨g, z, val, hn⟩
    · have hr : LA.n.result = (false, 0, 2) := by
        unfold Num.result
        rw [if_neg (by simp [hn.e]), if_pos hn.digits]
      have hen : LA.ended = ({ LA with e := 2 }, []) := by
        unfold Lex.ended
        rw [hr, if_pos (by decide)]
      rw [fin_e ht1 (hf.trans hen) rfl, if_neg (by simp [ht1]), if_pos (by simp)]
      exact Or.inr ⟨rfl, hl⟩
    · have hr0 : (resOf g val).2.2 = 0 := by
        by_cases hr : (resOf g val).2.2 = 0
        · exact hr
        · rcases num_over B hLe c2 hn hr with h1 | h1
          · rw [hBr] at h1; exact absurd h.rest.1 h1
          · rw [hBr] at h1
            have := h.rest.2
            simp only [] at h1
            omega
      have hen : LA.ended = ({ LA with state := 0, e := 0 }, [⟨110, ⟨#[]⟩, LA.n.result.1, LA.n.result.2.1⟩]) := by
        unfold Lex.ended
        rw [if_neg (by rw [hn.result]; simp [hr0])]
      obtain ⟨g', m', r', hfst⟩ := num_first B hLe c2 (by rw [hBr]; exact h.rest.1) (by rw [hBr]; have := h.rest.2; simp only []; omega)
      rw [hBr] at hfst
      simp only [List.cons.injEq] at hfst
      obtain ⟨rfl, rfl⟩ := hfst
      -- more tokens behind the number
      have hr' : r0 ≠ [] := by
        intro h0
        subst h0
        have hlast := h.last ⟨110, ⟨#[]⟩, g', m'⟩ (by rw [hts]; simp)
        exact hlast rfl
      have hk : (q.token ⟨110, ⟨#[]⟩, LA.n.result.1, LA.n.result.2.1⟩).2 = (q.token ⟨110, ⟨#[]⟩, g', m'⟩).2 := by rw [tok110, tok110]
      unfold Js.toks at he
      by_cases hb : (q.token ⟨110, ⟨#[]⟩, g', m'⟩).2.e ≠ 0
      · rw [if_pos hb] at he
        exact absurd he hb
      · rw [if_neg hb] at he
        simp only [] at he
        obtain ⟨t1, r1, rfl⟩ : ∃ t r, r0 = t :: r := by
          cases r0 with
          | nil => exact absurd rfl hr'
          | cons t r => exact ⟨t, r, rfl⟩
        have hn6' := toks_next he
        have hto : q.toks [⟨110, ⟨#[]⟩, LA.n.result.1, LA.n.result.2.1⟩] = ((q.token ⟨110, ⟨#[]⟩, LA.n.result.1, LA.n.result.2.1⟩).1.toList, (q.token ⟨110, ⟨#[]⟩, g', m'⟩).2) := toks_one rfl hk (by simpa using hb)
        rw [fin_e ht1 (hf.trans hen) hto, if_neg hb, if_neg (by simp), if_pos hn6']
        exact Or.inl rfl
  · have hf : LA.fin = ({ LA with e := 3 }, []) := by unfold Lex.fin; rw [if_neg (by simp [hLe, c0]), if_neg c2]
    rw [fin_e ht1 hf rfl, if_neg (by simp [ht1]), if_pos (by simp)]
    exact Or.inl rfl

theorem js_run_app : ∀ (l m : List UInt8) (p : Js), p.e = 0 → (p.eat l).2.e = 0 → (p.run (l ++ m)).2 = ((p.eat l).2.run m).2
  | [], m, p, _, _ => rfl
  | b :: l, m, p, hp, h => by
    simp only [Js.eat, Js.run, List.cons_append] at h ⊢
    by_cases he : (p.step b.toNat).2.e = 0
    · rw [if_neg (by simp [he])] at h ⊢
      rw [if_neg (by simp [he])]
      exact js_run_app l m _ he h
    · rw [if_pos he] at h
      exact absurd h he

theorem more_byte {d : Int} {S : List UInt8} {L' : Lex} {ts : List Tok} {es : List Ev} (h : Doc110 d S L' ts es) (b : UInt8) :
    if isBlank b.toNat = true then (jsAll (S ++ [b]) d).2 = 0 else (jsAll (S ++ [b]) d).2 = 2 ∨ (jsAll (S ++ [b]) d).2 = 3 := by
  have hE := js_eat_toks S (Js.new d) L' ts rfl h.run h.rest.1 h.e
  have hq := h.e
  have hn := h.next
  have hall : (jsAll (S ++ [b]) d).2 = (Js.run { ((Js.new d).toks ts).2 with l := L' } [b]).2 := by
    unfold jsAll
    have := h.dep
    rw [if_neg (by omega), js_run_app S [b] _ rfl (by rw [hE]; exact hq), hE]
  rw [hall]
  generalize ((Js.new d).toks ts).2 = q at hq hn
  have hR := h.rest
  -- what one byte more does
  have key : ∀ {N : Lex} {tk : List Tok} {ev : List Ev} {qq : Js}, L'.step b.toNat = (N, tk) → q.toks tk = (ev, qq) → (Js.run { q with l := L' } [b]).2 = if qq.e ≠ 0 then qq.e else if N.e ≠ 0 then N.e else (Js.fin { qq with l := N, e := 0 }).2.e := by
    intro N tk ev qq hN ht
    have hst : (Js.step { q with l := L' } b.toNat).2 = if qq.e ≠ 0 then { qq with l := N } else { qq with l := N, e := N.e } := by
      unfold Js.step
      rw [if_neg (by simp [hq])]
      simp only [hN]
      have hp : Js.parts { l := N, depth := q.depth, maps := q.maps, next := q.next, e := q.e } tk N.e = if qq.e ≠ 0 then (ev, { qq with l := N }) else (ev, { qq with l := N, e := N.e }) := by
        have h0 := js_toks_l N tk q
        rw [ht] at h0
        have h0' : Js.toks { l := N, depth := q.depth, maps := q.maps, next := q.next, e := q.e } tk = (ev, { qq with l := N }) := h0
        unfold Js.parts
        rw [h0']
      rw [hp]
      split <;> rfl
    unfold Js.run
    rw [hst]
    by_cases h1 : qq.e ≠ 0
    · rw [if_pos h1, if_pos h1, if_pos h1]
    · rw [if_neg h1, if_neg h1]
      by_cases h2 : N.e ≠ 0
      · rw [if_pos h2, if_pos h2]
      · rw [if_neg h2, if_neg h2]
        have h2' : N.e = 0 := by simpa using h2
        rw [h2']
        rfl
  have hfin : ∀ {N M : Lex} {tk : List Tok} {ev : List Ev} {qq : Js}, N.fin = (M, tk) → Js.toks { q with e := 0 } tk = (ev, qq) → (Js.fin { q with l := N, e := 0 }).2.e = if qq.e ≠ 0 then qq.e else if M.e ≠ 0 then M.e else if qq.next ≠ 6 then 3 else 0 := by
    intro N M tk ev qq hN ht
    exact fin_e (q := { q with e := 0 }) (L := N) rfl hN ht
  have hst : ∀ {r : Lex}, L'.between b.toNat = (r, []) → L'.step b.toNat = (r, []) := by
    intro r hr
    unfold Lex.step Lex.turn
    rw [if_neg (by simp [hR.1]), if_neg (by rw [hR.2]; decide), if_neg (by rw [hR.2]; decide), if_neg (by rw [hR.2]; decide), hr]
    simp
  have hlf : L'.fin = (L', []) := by unfold Lex.fin; rw [if_pos (Or.inr hR.2)]
  by_cases h1 : isBlank b.toNat = true
  · rw [if_pos h1, key (step_blank hR h1) rfl, if_neg (by simp [hq]), if_neg (by simp [hR.1]), hfin hlf rfl, if_neg (by simp), if_neg (by simp [hR.1]), if_neg (by simp [hn])]
  rw [if_neg h1]
  by_cases h2 : isMark b.toNat = true
  · left
    have ht := tok6 hn (Tok.of b.toNat)
    have ht2 : q.toks [Tok.of b.toNat] = ([], (q.token (Tok.of b.toNat)).2) := by
      unfold Js.toks
      rw [if_pos (by rw [ht]; decide)]
    rw [key (step_mark hR h2 (by simpa using h1)) ht2, ht, if_pos (by decide)]
  have hbt : L'.between b.toNat = if (b.toNat : Int) = 34 then ({ L' with state := 1, r := Rdr.new, s := [] }, [])
      else if (b.toNat : Int) = 45 ∨ isDig b.toNat = true then ({ L' with state := 2, n := Num.new.after b.toNat, e := (Num.new.after b.toNat).e }, [])
      else if (b.toNat : Int) = 116 then ({ L' with state := 3, rest := [114, 117, 101], kind := 116 }, [])
      else if (b.toNat : Int) = 102 then ({ L' with state := 3, rest := [97, 108, 115, 101], kind := 102 }, [])
      else if (b.toNat : Int) = 110 then ({ L' with state := 3, rest := [117, 108, 108], kind := 48 }, [])
      else ({ L' with e := 2 }, []) := by
    unfold Lex.between
    rw [if_neg h1, if_neg h2]
  have hnot : ∀ {N : Lex}, L'.between b.toNat = (N, []) → N.e = 0 → N.state ≠ 0 → N.state ≠ 2 → (Js.run { q with l := L' } [b]).2 = 3 := by
    intro N hN he hs0 hs2
    have hf : N.fin = ({ N with e := 3 }, []) := by unfold Lex.fin; rw [if_neg (by simp [he, hs0]), if_neg hs2]
    rw [key (hst hN) rfl, if_neg (by simp [hq]), if_neg (by simp [he]), hfin hf rfl, if_neg (by simp), if_pos (by simp)]
  by_cases h3 : (b.toNat : Int) = 34
  · rw [if_pos h3] at hbt
    exact Or.inr (hnot hbt hR.1 (by simp) (by simp))
  rw [if_neg h3] at hbt
  by_cases h4 : (b.toNat : Int) = 45 ∨ isDig b.toNat = true
  · rw [if_pos h4] at hbt
    left
    have he0 : (Num.new.after b.toNat).e = 0 := by
      rcases num_begun h4 with ⟨_, h⟩ | ⟨_, _, _, h⟩ <;> exact h.e
    rw [he0] at hbt
    rw [key (hst hbt) rfl, if_neg (by simp [hq]), if_neg (by simp)]
    have hf2 : Lex.fin { L' with state := 2, n := Num.new.after b.toNat, e := 0 } = Lex.ended { L' with state := 2, n := Num.new.after b.toNat, e := 0 } := by
      unfold Lex.fin
      rw [if_neg (by simp), if_pos rfl]
    by_cases hr : (Num.new.after b.toNat).result.2.2 ≠ 0
    · have hr2 : (Num.new.after b.toNat).result.2.2 = 2 := by
        rcases num_begun h4 with ⟨_, hh⟩ | ⟨g, z, val, hh⟩
        · unfold Num.result
          rw [if_neg (by simp [hh.e]), if_pos hh.digits]
        · exfalso
          apply hr
          by_cases hd : isDig b.toNat = true
          · have h5 := (NumAt.new.digit hd).1
            have hd9 : 48 ≤ (b.toNat : Int) ∧ (b.toNat : Int) ≤ 57 := by simpa [isDig] using hd
            rw [h5.result]
            unfold resOf
            rw [if_neg (by decide), if_pos (by omega)]
          · have hb : (b.toNat : Int) = 45 := by rcases h4 with h | h; exact h; exact absurd h hd
            rw [hb] at hh
            have := NumAt.new.sign.1.digits
            rw [hh.digits] at this
            cases this
      have hen : Lex.ended { L' with state := 2, n := Num.new.after b.toNat, e := 0 } = ({ L' with state := 2, n := Num.new.after b.toNat, e := 2 }, []) := by
        unfold Lex.ended
        rw [if_pos hr]
        simp only [hr2]
      rw [hfin (hf2.trans hen) rfl, if_neg (by simp), if_pos (by simp)]
    · have hen : Lex.ended { L' with state := 2, n := Num.new.after b.toNat, e := 0 } = ({ L' with state := 0, n := Num.new.after b.toNat, e := 0 }, [⟨110, ⟨#[]⟩, (Num.new.after b.toNat).result.1, (Num.new.after b.toNat).result.2.1⟩]) := by
        unfold Lex.ended
        rw [if_neg hr]
      have ht := tok6 (p := { q with e := 0 }) hn ⟨110, ⟨#[]⟩, (Num.new.after b.toNat).result.1, (Num.new.after b.toNat).result.2.1⟩
      have ht2 : Js.toks { q with e := 0 } [⟨110, ⟨#[]⟩, (Num.new.after b.toNat).result.1, (Num.new.after b.toNat).result.2.1⟩] = ([], (Js.token { q with e := 0 } ⟨110, ⟨#[]⟩, (Num.new.after b.toNat).result.1, (Num.new.after b.toNat).result.2.1⟩).2) := by
        unfold Js.toks
        rw [if_pos (by rw [ht]; decide)]
      rw [hfin (hf2.trans hen) ht2, ht, if_pos (by decide)]
  rw [if_neg h4] at hbt
  by_cases h5 : (b.toNat : Int) = 116
  · rw [if_pos h5] at hbt
    exact Or.inr (hnot hbt hR.1 (by simp) (by simp))
  rw [if_neg h5] at hbt
  by_cases h6 : (b.toNat : Int) = 102
  · rw [if_pos h6] at hbt
    exact Or.inr (hnot hbt hR.1 (by simp) (by simp))
  rw [if_neg h6] at hbt
  by_cases h7 : (b.toNat : Int) = 110
  · rw [if_pos h7] at hbt
    exact Or.inr (hnot hbt hR.1 (by simp) (by simp))
  rw [if_neg h7] at hbt
  left
  rw [key (hst hbt) rfl, if_neg (by simp [hq]), if_pos (by simp)]
end Go.Tru
