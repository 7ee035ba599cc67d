/-
  lexer.Lexer, plainly: a string that is written; a number's digits; a word.
-/
import Derived.Test.YtbeocehadnhmnaaLexModel
namespace Go.Tru

/-! ### strings -/

/-- these bytes end no string and are no fault -/
def Rdr.Calm (r : Rdr) : List UInt8 → Prop
  | [] => True
  | x :: l => ((x.toNat : Int) ≠ 34 ∨ r.whole = false) ∧ (r.step x.toNat).1.e = 0 ∧ Rdr.Calm (r.step x.toNat).1 l

theorem Rdr.calm_append : ∀ (l m : List UInt8) (r : Rdr), r.Calm (l ++ m) ↔ r.Calm l ∧ (r.run l).1.Calm m
  | [], m, r => by simp [Rdr.Calm, Rdr.run]
  | x :: l, m, r => by simp [Rdr.Calm, Rdr.run, Rdr.calm_append l m, and_assoc]

theorem u8_lit {b c : UInt8} : b = c ↔ (b.toNat : Int) = c.toNat :=
  ⟨fun h => by rw [h], fun h => UInt8.toNat_inj.1 (by omega)⟩

theorem Rdr.calm_escB {r : Rdr} {c : Chk} (h : r.At c) (hc : c.High) {b : UInt8} (hb : (c.step b.toNat).bad = false) : r.Calm (escB b) := by
  obtain ⟨c0, st, rr, n, pr, e⟩ := r
  obtain ⟨h1, h2, h3, h4⟩ := h
  simp only at h1 h2 h3 h4
  subst h1 h2 h3 h4
  have hasc : b.toNat < 128 → c0.Clean := fun hl => ⟨hc.1, Chk.low_clean hc.1 (by omega) hc.2 hb⟩
  have s92 : c0.Clean → c0.step 92 = ⟨0, 128, 191, false⟩ := fun hcl => Chk.step_ascii hcl (by omega)
  have e1 : b.toNat < 128 → Rdr.step ⟨c0, 0, rr, n, 0, 0⟩ ((92 : UInt8).toNat : Int) = (⟨⟨0, 128, 191, false⟩, 1, rr, n, 0, 0⟩, []) := fun hl => by
    show Rdr.step _ 92 = _
    simp [Rdr.step, Rdr.plain, s92 (hasc hl)]
  have w1 : Rdr.whole ⟨⟨0, 128, 191, false⟩, 1, rr, n, 0, 0⟩ = false := by simp [Rdr.whole]
  have short : ∀ x : UInt8, b.toNat < 128 → x.toNat ≠ 117 → escOf x.toNat ≠ [] → Rdr.Calm ⟨c0, 0, rr, n, 0, 0⟩ [92, x] := by
    intro x hl hx hex
    have hx' : ¬ ((x.toNat : Int) = 117) := by omega
    have e2 : (Rdr.step ⟨⟨0, 128, 191, false⟩, 1, rr, n, 0, 0⟩ (x.toNat : Int)).1.e = 0 := by
      simp [Rdr.step, Rdr.behind, hx', hex]
    refine ⟨Or.inl (by decide), by rw [e1 hl], ?_⟩
    rw [e1 hl]
    exact ⟨Or.inr w1, e2, trivial⟩
  unfold escB
  split
  · rename_i h
    rcases h with rfl | rfl
    · exact short 34 (by decide) (by decide) (by decide)
    · exact short 92 (by decide) (by decide) (by decide)
  split
  · rename_i h; subst h; exact short 98 (by decide) (by decide) (by decide)
  split
  · rename_i h; subst h; exact short 102 (by decide) (by decide) (by decide)
  split
  · rename_i h; subst h; exact short 110 (by decide) (by decide) (by decide)
  split
  · rename_i h; subst h; exact short 114 (by decide) (by decide) (by decide)
  split
  · rename_i h; subst h; exact short 116 (by decide) (by decide) (by decide)
  split
  · rename_i h
    have hlt : b.toNat < 32 := (uint8_lt b 32 (by omega)).1 h
    have hcl := hasc (by omega)
    obtain ⟨d1, d1'⟩ := hexDig_of (n := b.toNat / 16) (by omega)
    obtain ⟨d2, d2'⟩ := hexDig_of (n := b.toNat % 16) (by omega)
    have e2 : Rdr.step ⟨⟨0, 128, 191, false⟩, 1, rr, n, 0, 0⟩ ((117 : UInt8).toNat : Int) = (⟨⟨0, 128, 191, false⟩, 2, 0, 0, 0, 0⟩, []) := by
      show Rdr.step _ 117 = _
      simp [Rdr.step, Rdr.behind]
    have e3 : Rdr.step ⟨⟨0, 128, 191, false⟩, 2, 0, 0, 0, 0⟩ ((48 : UInt8).toNat : Int) = (⟨⟨0, 128, 191, false⟩, 2, 0, 1, 0, 0⟩, []) := by
      show Rdr.step _ 48 = _
      simp [Rdr.step, Rdr.digit, hexOf]
    have e4 : Rdr.step ⟨⟨0, 128, 191, false⟩, 2, 0, 1, 0, 0⟩ ((48 : UInt8).toNat : Int) = (⟨⟨0, 128, 191, false⟩, 2, 0, 2, 0, 0⟩, []) := by
      show Rdr.step _ 48 = _
      simp [Rdr.step, Rdr.digit, hexOf]
    have e5 : Rdr.step ⟨⟨0, 128, 191, false⟩, 2, 0, 2, 0, 0⟩ ((hexDig (b.toNat / 16)).toNat : Int) = (⟨⟨0, 128, 191, false⟩, 2, ((b.toNat / 16 : Nat) : Int), 3, 0, 0⟩, []) := by
      unfold Rdr.step Rdr.digit
      simp only [d1]
      rw [if_neg (by simp), if_neg (by simp), if_neg (by simp), if_neg (by simp), if_neg (by omega), if_pos (by simp)]
      simp
    have e6 : (Rdr.step ⟨⟨0, 128, 191, false⟩, 2, ((b.toNat / 16 : Nat) : Int), 3, 0, 0⟩ ((hexDig (b.toNat % 16)).toNat : Int)).1.e = 0 := by
      unfold Rdr.step Rdr.digit
      simp only [d2]
      rw [if_neg (by simp), if_neg (by simp), if_neg (by simp), if_neg (by simp), if_neg (by omega), if_neg (by simp), if_neg (by simp), if_neg (by omega), if_neg (by omega)]
    have w2 : ∀ x y, Rdr.whole ⟨⟨0, 128, 191, false⟩, 2, x, y, 0, 0⟩ = false := fun x y => by simp [Rdr.whole]
    simp only [Rdr.Calm, e1 (by omega), e2, e3, e4, e5, e6, w1, w2]
    simp
  · rename_i n34 n8 n12 n10 n13 n9 n32
    have h32 : ¬ b.toNat < 32 := fun hh => n32 ((uint8_lt b 32 (by omega)).2 hh)
    have h34 : ¬ ((b.toNat : Int) = 34) := fun hh => n34 (Or.inl (u8_lit.2 hh))
    have h92 : ¬ ((b.toNat : Int) = 92) := fun hh => n34 (Or.inr (u8_lit.2 hh))
    have e1 : (Rdr.step ⟨c0, 0, rr, n, 0, 0⟩ (b.toNat : Int)).1.e = 0 := by
      unfold Rdr.step Rdr.plain
      rw [if_neg (by simp), if_neg (by simp), if_pos rfl, if_neg (by omega), if_neg (by simp [hb]), if_neg h92]
    exact ⟨Or.inl h34, e1, trivial⟩

theorem Rdr.calm_write : ∀ (l : List UInt8) {r : Rdr} {c : Chk}, r.At c → c.High → (c.run l).bad = false → r.Calm (writeOf l)
  | [], _, _, _, _, _ => trivial
  | b :: l, r, c, h, hc, hb => by
    have hb1 : (c.step b.toNat).bad = false := by
      cases hh : (c.step b.toNat).bad
      · rfl
      · rw [Chk.run_cons, Chk.run_bad hh, hh] at hb; exact absurd hb (by simp)
    have e : writeOf (b :: l) = escB b ++ writeOf l := rfl
    rw [e, Rdr.calm_append]
    exact ⟨Rdr.calm_escB h hc hb1, Rdr.calm_write l (Rdr.run_escB h hc hb1).1 (Chk.high_step hc hb1) (by rw [Chk.run_cons] at hb; exact hb)⟩

/-- one byte within a string -/
theorem Lex.step_in {L : Lex} (h0 : L.e = 0) (h1 : L.state = 1) {x : UInt8} (hx : (x.toNat : Int) ≠ 34 ∨ L.r.whole = false) (he : (L.r.step x.toNat).1.e = 0) :
    L.step x.toNat = ({ L with r := (L.r.step x.toNat).1, s := L.s ++ (L.r.step x.toNat).2, e := if 200 < (L.s ++ (L.r.step x.toNat).2).length then 5 else 0 }, []) := by
  have hn : ¬ ((x.toNat : Int) = 34 ∧ L.r.whole = true) := by
    rintro ⟨a, b⟩
    rcases hx with h | h
    · exact h a
    · rw [h] at b; cases b
  unfold Lex.step Lex.turn Lex.text
  rw [if_neg (by simp [h0]), if_pos h1, if_neg hn]
  simp only [he, true_and]
  split <;> rfl

/-- within a string: no token; too much text is an error -/
theorem Lex.run_in : ∀ (l : List UInt8) {L : Lex}, L.e = 0 → L.state = 1 → L.s.length ≤ 200 → L.r.Calm l →
    (L.run l).2 = [] ∧ ((L.run l).1.e = 5 ∧ 200 < (L.s ++ (L.r.run l).2).length ∨ (L.run l).1 = { L with r := (L.r.run l).1, s := L.s ++ (L.r.run l).2 } ∧ (L.s ++ (L.r.run l).2).length ≤ 200)
  | [], L, h0, h1, hs, hc => by simp [Lex.run, Rdr.run, hs]
  | x :: l, L, h0, h1, hs, hc => by
    obtain ⟨c1, c2, c3⟩ := hc
    have e1 := Lex.step_in h0 h1 c1 c2
    by_cases hl : 200 < (L.s ++ (L.r.step x.toNat).2).length
    · rw [if_pos hl] at e1
      have hb := Lex.run_bad (L := (L.step x.toNat).1) (by rw [e1]; simp) l
      have e2 : L.run (x :: l) = ((L.step x.toNat).1, []) := by
        show (((L.step x.toNat).1.run l).1, (L.step x.toNat).2 ++ ((L.step x.toNat).1.run l).2) = _
        rw [hb, e1]
        rfl
      rw [e2]
      refine ⟨rfl, Or.inl ⟨by rw [e1], ?_⟩⟩
      simp only [Rdr.run, List.length_append] at hl ⊢
      omega
    · rw [if_neg hl] at e1
      obtain ⟨i1, i2⟩ := Lex.run_in l (L := (L.step x.toNat).1) (by rw [e1]) (by rw [e1]; exact h1) (by rw [e1]; simp only []; omega) (by rw [e1]; exact c3)
      have e2 : L.run (x :: l) = (((L.step x.toNat).1.run l).1, (L.step x.toNat).2 ++ ((L.step x.toNat).1.run l).2) := rfl
      rw [e2, i1]
      refine ⟨by rw [e1]; rfl, ?_⟩
      rw [e1] at i2 ⊢
      simp only [Rdr.run, ← List.append_assoc] at i2 ⊢
      rcases i2 with ⟨a, b⟩ | ⟨a, b⟩
      · exact Or.inl ⟨a, b⟩
      · refine Or.inr ⟨?_, b⟩
        rw [a]
        simp [h0]

/-- a quote ahead of a string -/
theorem Lex.step_quote {L : Lex} (h0 : L.e = 0) (h1 : L.state = 0) : L.step 34 = ({ L with state := 1, r := Rdr.new, s := [] }, []) := by
  unfold Lex.step Lex.turn Lex.between
  rw [if_neg (by simp [h0]), if_neg (by rw [h1]; decide), if_neg (by rw [h1]; decide), if_neg (by rw [h1]; decide)]
  simp [isBlank, isMark, h0]

/-- .. behind it -/
theorem Lex.step_unquote {L : Lex} (h0 : L.e = 0) (h1 : L.state = 1) (hw : L.r.whole = true) : L.step 34 = ({ L with state := 0, s := [] }, [⟨115, ⟨L.s.toArray⟩, false, 0⟩]) := by
  unfold Lex.step Lex.turn Lex.text
  rw [if_neg (by simp [h0]), if_pos h1, if_pos ⟨rfl, hw⟩]
  simp [h0]

theorem Chk.high_run {c : Chk} (h : c.High) {l : List UInt8} (hb : (c.run l).bad = false) : (c.run l).High := by
  induction l generalizing c with
  | nil => exact h
  | cons b l ih =>
    have hb1 : (c.step b.toNat).bad = false := by
      cases hh : (c.step b.toNat).bad
      · rfl
      · rw [Chk.run_cons, Chk.run_bad hh, hh] at hb; exact absurd hb (by simp)
    exact ih (Chk.high_step h hb1) hb

theorem Rdr.at_new : Rdr.new.At Chk.zero := ⟨rfl, rfl, rfl, rfl⟩

theorem Rdr.at_whole {r : Rdr} {c : Chk} (h : r.At c) : r.whole = c.whole := by
  obtain ⟨h1, h2, h3, h4⟩ := h
  simp [Rdr.whole, h1, h2, h3, h4]

/-- A STRING: quote, a text that is UTF-8, written, quote: one token at the last byte; or, of a text too long, an error ahead of it. -/
theorem Lex.string_run {L : Lex} (h0 : L.e = 0) (h1 : L.state = 0) {l : List UInt8} (hu : utf8 l = true) :
    (L.run (34 :: writeOf l)).2 = [] ∧ ((L.run (34 :: writeOf l)).1.e = 5 ∧ 200 < l.length ∨
      l.length ≤ 200 ∧ ∃ r, (L.run (34 :: writeOf l)).1 = { L with state := 1, r := r, s := l } ∧ r.whole = true) := by
  have hw := Chk.clean_whole.1 hu
  have hcalm := Rdr.calm_write l Rdr.at_new Chk.high_zero hw.1
  obtain ⟨r1, r2⟩ := Rdr.run_write l Rdr.at_new Chk.high_zero hw.1
  have e1 := Lex.step_quote h0 h1
  obtain ⟨i1, i2⟩ := Lex.run_in (writeOf l) (L := { L with state := 1, r := Rdr.new, s := [] }) h0 rfl (by simp) hcalm
  have e2 : L.run (34 :: writeOf l) = ((Lex.run { L with state := 1, r := Rdr.new, s := [] } (writeOf l)).1, (Lex.run { L with state := 1, r := Rdr.new, s := [] } (writeOf l)).2) := by
    show (((L.step ((34 : UInt8).toNat : Int)).1.run (writeOf l)).1, (L.step ((34 : UInt8).toNat : Int)).2 ++ ((L.step ((34 : UInt8).toNat : Int)).1.run (writeOf l)).2) = _
    have : L.step ((34 : UInt8).toNat : Int) = L.step 34 := rfl
    rw [this, e1]
    rfl
  rw [e2]
  refine ⟨i1, ?_⟩
  simp only [List.nil_append, r2] at i2
  rcases i2 with ⟨a, b⟩ | ⟨a, b⟩
  · exact Or.inl ⟨a, b⟩
  · refine Or.inr ⟨b, _, a, ?_⟩
    rw [Rdr.at_whole r1]
    exact hu

/-! ### no error of a beginning where there is none of the whole -/

theorem Lex.run_e {L : Lex} {l m : List UInt8} (h : (L.run (l ++ m)).1.e = 0) : (L.run l).1.e = 0 := by
  rw [Lex.run_append] at h
  by_cases he : (L.run l).1.e = 0
  · exact he
  · rw [Lex.run_bad he] at h
    exact absurd h he

theorem Lex.run_none {L : Lex} {l m : List UInt8} (h : (L.run (l ++ m)).2 = []) : (L.run l).2 = [] := by
  rw [Lex.run_append] at h
  exact (List.append_eq_nil_iff.1 h).1

/-! ### numbers -/

/-- these bytes are of the number -/
def Num.Takes (n : Num) : List UInt8 → Prop
  | [] => True
  | x :: l => n.took x.toNat = true ∧ (n.after x.toNat).e = 0 ∧ Num.Takes (n.after x.toNat) l

theorem Num.takes_append : ∀ (l m : List UInt8) (n : Num), n.Takes (l ++ m) ↔ n.Takes l ∧ (n.ran l).Takes m
  | [], m, n => by simp [Num.Takes, Num.ran]
  | x :: l, m, n => by
    simp only [List.cons_append, Num.Takes, Num.takes_append l m, and_assoc]
    rfl

theorem NumAt.takes {g : Bool} : ∀ (l : List UInt8) {n : Num} {val : Nat} (_ : NumAt n g true false val) (_ : allDig l), n.Takes l
  | [], _, _, _, _ => trivial
  | b :: l, n, val, h, hd => by
    obtain ⟨h1, h2, h3⟩ := h.digit (hd b (by simp))
    exact ⟨h2, h3, NumAt.takes l (by simpa using h1) (fun x hx => hd x (by simp [hx]))⟩

theorem NumAt.takesCanon {n : Num} {g : Bool} (h : NumAt n g false false 0) {l : List UInt8} (hl : Canon l) : n.Takes l := by
  obtain ⟨h1, h2, h3⟩ := hl
  match l, h2 with
  | b :: l, _ =>
    obtain ⟨i1, i2, i3⟩ := h.digit (h1 b (by simp))
    refine ⟨i2, i3, ?_⟩
    by_cases hb : b = 48
    · subst hb
      have := h3 rfl
      simp only [List.cons.injEq, true_and] at this
      subst this
      trivial
    · have hz : ((b.toNat : Int) == 48) = false := by
        rw [beq_eq_false_iff_ne]
        intro he
        exact hb (u8_lit.2 (by rw [he]; rfl))
      rw [hz] at i1
      exact NumAt.takes l (by simpa using i1) (fun x hx => h1 x (by simp [hx]))

theorem takes_print (g : Bool) (m : Nat) : Num.new.Takes (printW g m) := by
  rw [printW_signed]
  obtain ⟨hc, _, _⟩ := dec_canon (if g = true then m + 1 else m)
  cases g
  · exact NumAt.new.takesCanon hc
  · obtain ⟨s1, s2, s3⟩ := NumAt.new.sign
    exact ⟨s2, s3, s1.takesCanon hc⟩

theorem at_print (g : Bool) {m : Nat} (hm : m < 18446744073709551616) : ∃ z, NumAt (Num.new.ran (printW g m)) g true z (if g = true then m + 1 else m) ∧ (Num.new.ran (printW g m)).result = (g, m, 0) := by
  rw [printW_signed]
  obtain ⟨hc, hn, _⟩ := dec_canon (if g = true then m + 1 else m)
  obtain ⟨z, h1, _⟩ := parse_signed g hc []
  rw [hn] at h1
  refine ⟨z, h1, ?_⟩
  rw [h1.result]
  cases g
  · simp [resOf, hm]
  · simp [resOf]; omega

/-- more bytes of a number -/
theorem Lex.run_num : ∀ (l : List UInt8) {L : Lex}, L.e = 0 → L.state = 2 → L.n.Takes l → L.run l = ({ L with n := L.n.ran l }, [])
  | [], _, _, _, _ => rfl
  | x :: l, L, h0, h1, ht => by
    obtain ⟨t1, t2, t3⟩ := ht
    have e1 : L.step x.toNat = ({ L with n := L.n.after x.toNat }, []) := by
      unfold Lex.step Lex.turn Lex.number
      rw [if_neg (by simp [h0]), if_neg (by rw [h1]; decide), if_neg (by rw [h1]; decide), if_pos h1, if_pos (Or.inl t1)]
      simp [t2, h0]
    show (((L.step x.toNat).1.run l).1, (L.step x.toNat).2 ++ ((L.step x.toNat).1.run l).2) = _
    rw [e1, Lex.run_num l (L := { L with n := L.n.after x.toNat }) h0 h1 t3]
    rfl

/-- A NUMBER's bytes: no token yet. -/
theorem Lex.run_print {L : Lex} (h0 : L.e = 0) (h1 : L.state = 0) (g : Bool) (m : Nat) : L.run (printW g m) = ({ L with state := 2, n := Num.new.ran (printW g m) }, []) := by
  have ht := takes_print g m
  have hf : ∃ x t, printW g m = x :: t ∧ ((x.toNat : Int) = 45 ∨ isDig x.toNat = true) := by
    rw [printW_signed]
    cases g
    · obtain ⟨⟨c1, c2, _⟩, _, _⟩ := dec_canon m
      match hd : Lib.decDigits m, c2 with
      | x :: t, _ => exact ⟨x, t, rfl, Or.inr (c1 x (by rw [hd]; simp))⟩
    · exact ⟨45, _, rfl, Or.inl rfl⟩
  obtain ⟨x, t, hx, hc⟩ := hf
  rw [hx] at ht ⊢
  obtain ⟨t1, t2, t3⟩ := ht
  have hne : isBlank x.toNat = false ∧ isMark x.toNat = false ∧ ¬ (x.toNat : Int) = 34 := by
    have : (x.toNat : Int) = 45 ∨ 48 ≤ (x.toNat : Int) ∧ (x.toNat : Int) ≤ 57 := by
      rcases hc with h | h
      · exact Or.inl h
      · exact Or.inr (by simpa [isDig] using h)
    refine ⟨?_, ?_, by omega⟩
    · simp only [isBlank, decide_eq_false_iff_not]; omega
    · simp only [isMark, decide_eq_false_iff_not]; omega
  have e1 : L.step x.toNat = ({ L with state := 2, n := Num.new.after x.toNat }, []) := by
    unfold Lex.step Lex.turn Lex.between
    rw [if_neg (by simp [h0]), if_neg (by rw [h1]; decide), if_neg (by rw [h1]; decide), if_neg (by rw [h1]; decide), if_neg (by simp [hne.1]), if_neg (by simp [hne.2.1]), if_neg hne.2.2, if_pos hc]
    simp [t2, h0]
  show (((L.step x.toNat).1.run t).1, (L.step x.toNat).2 ++ ((L.step x.toNat).1.run t).2) = _
  rw [e1, Lex.run_num t (L := { L with state := 2, n := Num.new.after x.toNat }) h0 rfl t3]
  rfl

/-- what ends a number -/
theorem Lex.step_num {L : Lex} (h0 : L.e = 0) (h1 : L.state = 2) {g z : Bool} {val m : Nat} (ha : NumAt L.n g true z val) (hr : L.n.result = (g, m, 0)) {b : Int} (hd : isDig b = false) (hb : ¬ (b = 46 ∨ b = 101 ∨ b = 69)) :
    L.step b = (({ L with state := 0 } : Lex).between b |>.1, if (({ L with state := 0 } : Lex).between b).1.e ≠ 0 then [] else ⟨110, ⟨#[]⟩, g, m⟩ :: (({ L with state := 0 } : Lex).between b).2) := by
  obtain ⟨s1, s2⟩ := ha.stop hd hb
  obtain ⟨state, r, s, n, rest, kind, e⟩ := L
  simp only at h0 h1 s1 s2 hr ha
  subst h0 h1
  have e0 := ha.e
  have he : Lex.ended ⟨2, r, s, n, rest, kind, 0⟩ = (⟨0, r, s, n, rest, kind, 0⟩, [⟨110, ⟨#[]⟩, g, m⟩]) := by
    unfold Lex.ended
    simp [hr]
  have e1 : Lex.number ⟨2, r, s, n, rest, kind, 0⟩ b = ((Lex.between ⟨0, r, s, n, rest, kind, 0⟩ b).1, ⟨110, ⟨#[]⟩, g, m⟩ :: (Lex.between ⟨0, r, s, n, rest, kind, 0⟩ b).2) := by
    unfold Lex.number
    simp only [s1, s2]
    rw [if_neg (by simp [e0]), he]
    simp
  have e2 : Lex.turn ⟨2, r, s, n, rest, kind, 0⟩ b = Lex.number ⟨2, r, s, n, rest, kind, 0⟩ b := by
    unfold Lex.turn
    rw [if_neg (by simp), if_neg (by simp), if_pos rfl]
  unfold Lex.step
  rw [if_neg (by simp), e2, e1]

/-- .. or the end of all -/
theorem Lex.fin_num {L : Lex} (h0 : L.e = 0) (h1 : L.state = 2) {g : Bool} {m : Nat} (hr : L.n.result = (g, m, 0)) : L.fin = ({ L with state := 0 }, [⟨110, ⟨#[]⟩, g, m⟩]) := by
  unfold Lex.fin Lex.ended
  rw [if_neg (by simp [h0, h1]), if_pos h1]
  simp [hr, h0]

theorem run_take {bs : List UInt8} {k : Nat} (hk : k < bs.length) (L : Lex) :
    L.run (bs.take (k + 1)) = (((L.run (bs.take k)).1.step bs[k].toNat).1, (L.run (bs.take k)).2 ++ ((L.run (bs.take k)).1.step bs[k].toNat).2) := by
  have h : bs.take (k + 1) = bs.take k ++ [bs[k]] := List.take_succ_eq_append_getElem hk
  rw [h, Lex.run_append, Lex.run_one]

theorem run_take' {bs : List UInt8} {k : Nat} {x : UInt8} (hk : bs[k]? = some x) (L : Lex) :
    L.run (bs.take (k + 1)) = (((L.run (bs.take k)).1.step x.toNat).1, (L.run (bs.take k)).2 ++ ((L.run (bs.take k)).1.step x.toNat).2) := by
  obtain ⟨h, rfl⟩ := List.getElem?_eq_some_iff.1 hk
  exact run_take h L

end Go.Tru
