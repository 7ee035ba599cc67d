/-
  escape.Reader, plainly: what it makes of each byte; a text that is written so is read as it was.
-/
import Derived.Test.YtmhkgfddlkdmgaaUtfPlain
namespace Go.Tru

structure Rdr where
  c : Chk
  state : Int
  r : Int
  n : Int
  pair : Int
  e : Int

def Rdr.new : Rdr := ⟨Chk.zero, 0, 0, 0, 0, 0⟩
def Rdr.cells (r : Rdr) : List Value := r.c.cells ++ [.int .i64 r.state, .int .i64 r.r, .int .i64 r.n, .int .i64 r.pair, .int .i64 r.e]

def hexOf (b : Int) : Int := if 48 ≤ b ∧ b ≤ 57 then b - 48 else if 97 ≤ b ∧ b ≤ 102 then b - 87 else if 65 ≤ b ∧ b ≤ 70 then b - 55 else -1

theorem hexOf_lt (b : Int) : -1 ≤ hexOf b ∧ hexOf b ≤ 15 := by unfold hexOf; repeat (first | omega | split)

def Rdr.may (r : Rdr) (b : Int) : Bool :=
  if r.state = 0 then decide (b = 92) else if r.state = 1 then decide (b = 117) else if r.n = 0 then decide (hexOf b = 13) else if r.n = 1 then decide (12 ≤ hexOf b) else decide (0 ≤ hexOf b)

def escOf (b : Int) : List UInt8 :=
  if b = 34 then [34] else if b = 92 then [92] else if b = 47 then [47] else if b = 98 then [8] else if b = 102 then [12] else if b = 110 then [10] else if b = 114 then [13] else if b = 116 then [9] else []

/-- utf.Put's text -/
def putOf (x : Int) : List UInt8 := if 0 ≤ x ∧ x < 55296 ∨ 57343 < x ∧ x ≤ 1114111 then enc x else []

def Rdr.digit (r : Rdr) (b : Int) : Rdr × List UInt8 :=
  if hexOf b < 0 then ({ r with e := 2 }, [])
  else if r.n < 3 then ({ r with r := r.r * 16 + hexOf b, n := r.n + 1 }, [])
  else if 0 < r.pair then ({ r with r := r.r * 16 + hexOf b, n := r.n + 1, state := 0, pair := 0 }, putOf (65536 + (r.pair - 55296) * 1024 + (r.r * 16 + hexOf b) - 56320))
  else if 56320 ≤ r.r * 16 + hexOf b ∧ r.r * 16 + hexOf b < 57344 then ({ r with r := r.r * 16 + hexOf b, n := r.n + 1, state := 0, e := 9 }, [])
  else if 55296 ≤ r.r * 16 + hexOf b ∧ r.r * 16 + hexOf b < 56320 then ({ r with r := r.r * 16 + hexOf b, n := r.n + 1, state := 0, pair := r.r * 16 + hexOf b }, [])
  else ({ r with r := r.r * 16 + hexOf b, n := r.n + 1, state := 0 }, putOf (r.r * 16 + hexOf b))

def Rdr.behind (r : Rdr) (b : Int) : Rdr × List UInt8 :=
  if b = 117 then ({ r with state := 2, r := 0, n := 0 }, [])
  else if escOf b = [] then ({ r with e := 2 }, [])
  else ({ r with state := 0 }, escOf b)

def Rdr.plain (r : Rdr) (b : Int) : Rdr × List UInt8 :=
  if b < 32 ∨ b = 34 then ({ r with e := 2 }, [])
  else if (r.c.step b).bad = true then ({ r with c := r.c.step b, e := 9 }, [])
  else if b = 92 then ({ r with c := r.c.step b, state := 1 }, [])
  else ({ r with c := r.c.step b }, [UInt8.ofNat b.toNat])

def Rdr.step (r : Rdr) (b : Int) : Rdr × List UInt8 :=
  if r.e ≠ 0 then (r, [])
  else if 0 < r.pair ∧ r.may b = false then ({ r with e := 9 }, [])
  else if r.state = 0 then r.plain b
  else if r.state = 1 then r.behind b
  else r.digit b

def Rdr.whole (r : Rdr) : Bool := decide (r.e = 0) && decide (r.state = 0) && decide (r.pair = 0) && r.c.whole

/-- so many digits, and their number -/
def Hexes (n r : Int) : Prop := n = 0 ∧ r = 0 ∨ n = 1 ∧ 0 ≤ r ∧ r ≤ 15 ∨ n = 2 ∧ 0 ≤ r ∧ r ≤ 255 ∨ n = 3 ∧ 0 ≤ r ∧ r ≤ 4095

/-- the bounds that a Reader keeps -/
structure Rdr.Fit (r : Rdr) : Prop where
  c : r.c.Fit
  st : r.state = 0 ∨ r.state = 1 ∨ r.state = 2 ∧ Hexes r.n r.r
  pair : r.pair = 0 ∨ 55296 ≤ r.pair ∧ r.pair ≤ 56319

theorem Rdr.fit_new : Rdr.new.Fit := ⟨Chk.fit_zero, Or.inl rfl, Or.inl rfl⟩

theorem Rdr.fit_plain {r : Rdr} (h : r.Fit) (b : Int) : (r.plain b).1.Fit := by
  obtain ⟨h1, h2, h3⟩ := h
  unfold Rdr.plain
  split
  · exact ⟨h1, h2, h3⟩
  split
  · exact ⟨Chk.fit_step h1 b, h2, h3⟩
  split
  · exact ⟨Chk.fit_step h1 b, Or.inr (Or.inl rfl), h3⟩
  · exact ⟨Chk.fit_step h1 b, h2, h3⟩

theorem Rdr.fit_behind {r : Rdr} (h : r.Fit) (b : Int) : (r.behind b).1.Fit := by
  obtain ⟨h1, h2, h3⟩ := h
  unfold Rdr.behind
  split
  · exact ⟨h1, Or.inr (Or.inr ⟨rfl, Or.inl ⟨rfl, rfl⟩⟩), h3⟩
  split
  · exact ⟨h1, h2, h3⟩
  · exact ⟨h1, Or.inl rfl, h3⟩

theorem Rdr.fit_digit {r : Rdr} (h : r.Fit) (h2 : r.state = 2) (b : Int) : (r.digit b).1.Fit := by
  obtain ⟨h1, hs, h3⟩ := h
  have hx := hexOf_lt b
  have hh : Hexes r.n r.r := by rcases hs with a | a | a; · omega
                                · omega
                                · exact a.2
  unfold Rdr.digit
  split
  · exact ⟨h1, hs, h3⟩
  split
  · refine ⟨h1, Or.inr (Or.inr ⟨h2, ?_⟩), h3⟩
    unfold Hexes at hh ⊢
    simp only []
    omega
  split
  · exact ⟨h1, Or.inl rfl, Or.inl rfl⟩
  split
  · exact ⟨h1, Or.inl rfl, h3⟩
  split
  · rename_i hp
    exact ⟨h1, Or.inl rfl, Or.inr ⟨hp.1, by simp only []; omega⟩⟩
  · exact ⟨h1, Or.inl rfl, h3⟩

theorem Rdr.fit_step {r : Rdr} (h : r.Fit) (b : Int) : (r.step b).1.Fit := by
  unfold Rdr.step
  split
  · exact h
  split
  · exact ⟨h.c, h.st, h.pair⟩
  split
  · exact Rdr.fit_plain h b
  split
  · exact Rdr.fit_behind h b
  · rename_i h0 h1
    refine Rdr.fit_digit h ?_ b
    rcases h.st with a | a | a
    · exact absurd a h0
    · exact absurd a h1
    · exact a.1

theorem putOf_len (x : Int) : (putOf x).length ≤ 4 := by
  unfold putOf
  split
  · exact enc_len.2
  · simp

theorem escOf_len (b : Int) : (escOf b).length ≤ 1 := by
  unfold escOf
  repeat' split
  all_goals simp

theorem Rdr.out_len (r : Rdr) (b : Int) : (r.step b).2.length ≤ 4 := by
  unfold Rdr.step Rdr.plain Rdr.behind Rdr.digit
  have := escOf_len b
  have p := putOf_len
  repeat' split
  all_goals first | exact p _ | (simp; done) | (simp only []; omega)

/-! ### a text that is written -/

def hexDig (n : Nat) : UInt8 := if n < 10 then UInt8.ofNat (48 + n) else UInt8.ofNat (87 + n)

/-- a byte of a text as it is written -/
def escB (b : UInt8) : List UInt8 :=
  if b = 34 ∨ b = 92 then [92, b]
  else if b = 8 then [92, 98] else if b = 12 then [92, 102] else if b = 10 then [92, 110] else if b = 13 then [92, 114] else if b = 9 then [92, 116]
  else if b < 32 then [92, 117, 48, 48, hexDig (b.toNat / 16), hexDig (b.toNat % 16)]
  else [b]

def writeOf (l : List UInt8) : List UInt8 := l.flatMap escB

/-- a Reader at a plain place, nothing open but a rune -/
structure Rdr.At (r : Rdr) (c : Chk) : Prop where
  c : r.c = c
  st : r.state = 0
  pair : r.pair = 0
  e : r.e = 0

/-- so many bytes one behind the other -/
def Rdr.run (r : Rdr) : List UInt8 → Rdr × List UInt8
  | [] => (r, [])
  | b :: l => (((r.step b.toNat).1.run l).1, (r.step b.toNat).2 ++ ((r.step b.toNat).1.run l).2)

theorem Rdr.run_append (r : Rdr) (l m : List UInt8) : r.run (l ++ m) = (((r.run l).1.run m).1, (r.run l).2 ++ ((r.run l).1.run m).2) := by
  induction l generalizing r with
  | nil => simp [Rdr.run]
  | cons b l ih => simp [Rdr.run, ih]

theorem Chk.low_clean {c : Chk} {b : Int} (h0 : c.bad = false) (hb : b < 128) (hlow : c.lack ≠ 0 → 128 ≤ c.low) (h : (c.step b).bad = false) : c.lack = 0 := by
  by_cases hl : c.lack = 0
  · exact hl
  · have := hlow hl
    rw [Chk.step_out h0 hl (Or.inl (by omega))] at h
    simp at h

/-- the lower bound of what may follow is none of ASCII -/
def Chk.High (c : Chk) : Prop := c.bad = false ∧ (c.lack ≠ 0 → 128 ≤ c.low)

theorem Chk.high_zero : Chk.zero.High := ⟨rfl, fun h => absurd rfl h⟩
theorem Chk.high_step {c : Chk} (h : c.High) {b : Int} (hb : (c.step b).bad = false) : (c.step b).High := by
  refine ⟨hb, fun _ => ?_⟩
  obtain ⟨h0, h1⟩ := h
  by_cases hl : c.lack = 0
  · rw [Chk.step_clean ⟨h0, hl⟩]
    simp only [Chk.begin, leadLow]
    repeat (first | omega | split)
  · by_cases hr : b < c.low ∨ c.high < b
    · rw [Chk.step_out h0 hl hr] at hb; simp at hb
    · rw [Chk.step_in h0 hl (by omega) (by omega)]
      show (128 : Int) ≤ 128
      omega

/-- a byte below 128 behind nothing open -/
theorem Chk.step_ascii {c : Chk} (h : c.Clean) {b : Int} (hb : b < 128) : c.step b = ⟨0, 128, 191, false⟩ := by
  rw [Chk.step_clean h]
  obtain ⟨h0, h1⟩ := h
  simp only [Chk.begin, leadLack, leadLow, leadHigh, leadOk]
  have e1 : ¬ b = 224 := by omega
  have e2 : ¬ b = 240 := by omega
  have e3 : ¬ b = 237 := by omega
  have e4 : ¬ b = 244 := by omega
  simp [hb, h1, e1, e2, e3, e4]

theorem hexDig_of {n : Nat} (h : n < 16) : hexOf (hexDig n).toNat = n ∧ 0 ≤ hexOf (hexDig n).toNat := by
  have : ∀ m : Fin 16, hexOf (hexDig m.1).toNat = m.1 := by decide
  have h2 := this ⟨n, h⟩
  exact ⟨h2, by simp only [] at h2; omega⟩

theorem uint8_lt (b : UInt8) (k : Nat) (hk : k < 256) : b < UInt8.ofNat k ↔ b.toNat < k := by
  rw [UInt8.lt_iff_toNat_lt, toNat_ofNat hk]

/-- a byte of a text, written, is read as it was -/
theorem Rdr.run_escB {r : Rdr} {c : Chk} (h : r.At c) (hc : c.High) {b : UInt8} (hb : (c.step b.toNat).bad = false) : (r.run (escB b)).1.At (c.step b.toNat) ∧ (r.run (escB b)).2 = [b] := by
  obtain ⟨c0, st, rr, n, pr, e⟩ := r
  obtain ⟨h1, h2, h3, h4⟩ := h
  simp only at h1 h2 h3 h4
  subst h1 h2 h3 h4
  have hasc : b.toNat < 128 → c0.Clean := fun hl => ⟨hc.1, Chk.low_clean hc.1 (by omega) hc.2 hb⟩
  have s92 : c0.Clean → c0.step 92 = ⟨0, 128, 191, false⟩ := fun hcl => Chk.step_ascii hcl (by omega)
  -- a short escape
  have short : ∀ x : UInt8, b.toNat < 128 → x.toNat ≠ 117 → escOf x.toNat = [b] → (Rdr.run ⟨c0, 0, rr, n, 0, 0⟩ [92, x]).1.At (c0.step b.toNat) ∧ (Rdr.run ⟨c0, 0, rr, n, 0, 0⟩ [92, x]).2 = [b] := by
    intro x hl hx hex
    have hx' : ¬ ((x.toNat : Int) = 117) := by omega
    have e1 : Rdr.step ⟨c0, 0, rr, n, 0, 0⟩ ((92 : UInt8).toNat : Int) = (⟨⟨0, 128, 191, false⟩, 1, rr, n, 0, 0⟩, []) := by
      show Rdr.step _ 92 = _
      simp [Rdr.step, Rdr.plain, s92 (hasc hl)]
    have e2 : Rdr.step ⟨⟨0, 128, 191, false⟩, 1, rr, n, 0, 0⟩ (x.toNat : Int) = (⟨⟨0, 128, 191, false⟩, 0, rr, n, 0, 0⟩, [b]) := by
      simp [Rdr.step, Rdr.behind, hx', hex]
    simp only [Rdr.run, e1, e2]
    rw [Chk.step_ascii (hasc hl) (by omega)]
    exact ⟨⟨rfl, rfl, rfl, rfl⟩, by simp⟩
  unfold escB
  split
  · rename_i h
    rcases h with rfl | rfl
    · exact short 34 (by decide) (by decide) (by decide)
    · exact short 92 (by decide) (by decide) (by decide)
  split
  · rename_i h; subst h; exact short 98 (by decide) (by decide) (by decide)
  split
  · rename_i h; subst h; exact short 102 (by decide) (by decide) (by decide)
  split
  · rename_i h; subst h; exact short 110 (by decide) (by decide) (by decide)
  split
  · rename_i h; subst h; exact short 114 (by decide) (by decide) (by decide)
  split
  · rename_i h; subst h; exact short 116 (by decide) (by decide) (by decide)
  split
  · rename_i h
    have hlt : b.toNat < 32 := (uint8_lt b 32 (by omega)).1 h
    have hcl := hasc (by omega)
    obtain ⟨d1, d1'⟩ := hexDig_of (n := b.toNat / 16) (by omega)
    obtain ⟨d2, d2'⟩ := hexDig_of (n := b.toNat % 16) (by omega)
    have e1 : Rdr.step ⟨c0, 0, rr, n, 0, 0⟩ ((92 : UInt8).toNat : Int) = (⟨⟨0, 128, 191, false⟩, 1, rr, n, 0, 0⟩, []) := by
      show Rdr.step _ 92 = _
      simp [Rdr.step, Rdr.plain, s92 hcl]
    have e2 : Rdr.step ⟨⟨0, 128, 191, false⟩, 1, rr, n, 0, 0⟩ ((117 : UInt8).toNat : Int) = (⟨⟨0, 128, 191, false⟩, 2, 0, 0, 0, 0⟩, []) := by
      show Rdr.step _ 117 = _
      simp [Rdr.step, Rdr.behind]
    have e3 : Rdr.step ⟨⟨0, 128, 191, false⟩, 2, 0, 0, 0, 0⟩ ((48 : UInt8).toNat : Int) = (⟨⟨0, 128, 191, false⟩, 2, 0, 1, 0, 0⟩, []) := by
      show Rdr.step _ 48 = _
      simp [Rdr.step, Rdr.digit, hexOf]
    have e4 : Rdr.step ⟨⟨0, 128, 191, false⟩, 2, 0, 1, 0, 0⟩ ((48 : UInt8).toNat : Int) = (⟨⟨0, 128, 191, false⟩, 2, 0, 2, 0, 0⟩, []) := by
      show Rdr.step _ 48 = _
      simp [Rdr.step, Rdr.digit, hexOf]
    have e5 : Rdr.step ⟨⟨0, 128, 191, false⟩, 2, 0, 2, 0, 0⟩ ((hexDig (b.toNat / 16)).toNat : Int) = (⟨⟨0, 128, 191, false⟩, 2, ((b.toNat / 16 : Nat) : Int), 3, 0, 0⟩, []) := by
      unfold Rdr.step Rdr.digit
      simp only [d1]
      rw [if_neg (by simp), if_neg (by simp), if_neg (by simp), if_neg (by simp), if_neg (by omega), if_pos (by simp)]
      simp
    have e6 : Rdr.step ⟨⟨0, 128, 191, false⟩, 2, ((b.toNat / 16 : Nat) : Int), 3, 0, 0⟩ ((hexDig (b.toNat % 16)).toNat : Int) = (⟨⟨0, 128, 191, false⟩, 0, b.toNat, 4, 0, 0⟩, [b]) := by
      have hv : ((b.toNat / 16 : Nat) : Int) * 16 + ((b.toNat % 16 : Nat) : Int) = b.toNat := by omega
      unfold Rdr.step Rdr.digit
      simp only [d2, hv]
      rw [if_neg (by simp), if_neg (by simp), if_neg (by simp), if_neg (by simp), if_neg (by omega), if_neg (by simp), if_neg (by simp), if_neg (by omega), if_neg (by omega)]
      have : putOf (b.toNat : Int) = [b] := by
        unfold putOf
        rw [if_pos (by omega)]
        exact (enc_of1 (a := b) (by omega)).2
      rw [this]
      simp
    simp only [Rdr.run, e1, e2, e3, e4, e5, e6]
    rw [Chk.step_ascii hcl (by omega)]
    exact ⟨⟨rfl, rfl, rfl, rfl⟩, by simp⟩
  · rename_i n34 n8 n12 n10 n13 n9 n32
    have h32 : ¬ b.toNat < 32 := fun hh => n32 ((uint8_lt b 32 (by omega)).2 hh)
    have h34 : ¬ ((b.toNat : Int) = 34) := fun hh => n34 (Or.inl (UInt8.toNat_inj.1 (by show b.toNat = 34; omega)))
    have h92 : ¬ ((b.toNat : Int) = 92) := fun hh => n34 (Or.inr (UInt8.toNat_inj.1 (by show b.toNat = 92; omega)))
    have e1 : Rdr.step ⟨c0, 0, rr, n, 0, 0⟩ (b.toNat : Int) = (⟨c0.step b.toNat, 0, rr, n, 0, 0⟩, [b]) := by
      unfold Rdr.step Rdr.plain
      rw [if_neg (by simp), if_neg (by simp), if_pos rfl, if_neg (by omega), if_neg (by simp [hb]), if_neg h92]
      simp
    simp only [Rdr.run, e1]
    exact ⟨⟨rfl, rfl, rfl, rfl⟩, by simp⟩

/-- a text, written, is read as it was -/
theorem Rdr.run_write : ∀ (l : List UInt8) {r : Rdr} {c : Chk}, r.At c → c.High → (c.run l).bad = false → (r.run (writeOf l)).1.At (c.run l) ∧ (r.run (writeOf l)).2 = l
  | [], _, _, h, _, _ => ⟨h, rfl⟩
  | b :: l, r, c, h, hc, hb => by
    have hb1 : (c.step b.toNat).bad = false := by
      cases hh : (c.step b.toNat).bad
      · rfl
      · rw [Chk.run_cons, Chk.run_bad hh, hh] at hb; exact absurd hb (by simp)
    obtain ⟨i1, i2⟩ := Rdr.run_escB h hc hb1
    obtain ⟨j1, j2⟩ := Rdr.run_write l i1 (Chk.high_step hc hb1) (by rw [Chk.run_cons] at hb; exact hb)
    have e : writeOf (b :: l) = escB b ++ writeOf l := rfl
    rw [e, Rdr.run_append]
    exact ⟨j1, by simp only [i2, j2]; rfl⟩

end Go.Tru
