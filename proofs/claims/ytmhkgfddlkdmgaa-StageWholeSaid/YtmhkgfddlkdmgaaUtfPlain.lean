/-
  UTF-8, plainly: a rune's bytes; what a Check makes of them; a text that is UTF-8 is runes one behind the other.
-/
import Derived.Test.YtmhkgfddlkdmgaaChk
namespace Go.Tru

def isRune (r : Int) : Prop := 0 ≤ r ∧ r < 55296 ∨ 57343 < r ∧ r ≤ 1114111

def encN (n : Nat) : List Nat :=
  if n < 128 then [n] else if n < 2048 then [192 + n / 64, 128 + n % 64]
  else if n < 65536 then [224 + n / 4096, 128 + n / 64 % 64, 128 + n % 64]
  else [240 + n / 262144, 128 + n / 4096 % 64, 128 + n / 64 % 64, 128 + n % 64]

def enc (r : Int) : List UInt8 := (encN r.toNat).map UInt8.ofNat

theorem encode_enc {r : Int} (h : isRune r) : (Utf8.encode r).data.toList = enc r := by
  have hv : Utf8.valid r = true := by simp [Utf8.valid]; unfold isRune at h; omega
  unfold Utf8.encode enc encN
  simp only [hv, if_true]
  repeat' split
  all_goals simp_all

theorem toNat_ofNat {n : Nat} (h : n < 256) : (UInt8.ofNat n).toNat = n := by
  simp [UInt8.toNat_ofNat']; omega

theorem enc_len {r : Int} : 1 ≤ (enc r).length ∧ (enc r).length ≤ 4 := by
  unfold enc encN
  repeat' split
  all_goals simp

/-- a rune's bytes, by its size -/
theorem enc_cases {r : Int} (h : isRune r) :
    (r < 128 ∧ ∃ a : UInt8, (a.toNat : Int) = r ∧ enc r = [a]) ∨
    (128 ≤ r ∧ r < 2048 ∧ ∃ a b : UInt8, (a.toNat : Int) = 192 + r / 64 ∧ (b.toNat : Int) = 128 + r % 64 ∧ enc r = [a, b]) ∨
    (2048 ≤ r ∧ r < 65536 ∧ ∃ a b c : UInt8, (a.toNat : Int) = 224 + r / 4096 ∧ (b.toNat : Int) = 128 + r / 64 % 64 ∧ (c.toNat : Int) = 128 + r % 64 ∧ enc r = [a, b, c]) ∨
    (65536 ≤ r ∧ ∃ a b c d : UInt8, (a.toNat : Int) = 240 + r / 262144 ∧ (b.toNat : Int) = 128 + r / 4096 % 64 ∧ (c.toNat : Int) = 128 + r / 64 % 64 ∧ (d.toNat : Int) = 128 + r % 64 ∧ enc r = [a, b, c, d]) := by
  obtain ⟨n, rfl⟩ : ∃ n : Nat, r = n := ⟨r.toNat, by unfold isRune at h; omega⟩
  have hn : n ≤ 1114111 := by unfold isRune at h; omega
  unfold enc encN
  simp only [Int.toNat_natCast]
  by_cases h1 : n < 128
  · exact Or.inl ⟨by omega, UInt8.ofNat n, by rw [toNat_ofNat (by omega)], by simp [h1]⟩
  by_cases h2 : n < 2048
  · exact Or.inr (Or.inl ⟨by omega, by omega, UInt8.ofNat (192 + n / 64), UInt8.ofNat (128 + n % 64), by rw [toNat_ofNat (by omega)]; omega, by rw [toNat_ofNat (by omega)]; omega, by simp [h1, h2]⟩)
  by_cases h3 : n < 65536
  · exact Or.inr (Or.inr (Or.inl ⟨by omega, by omega, UInt8.ofNat (224 + n / 4096), UInt8.ofNat (128 + n / 64 % 64), UInt8.ofNat (128 + n % 64), by rw [toNat_ofNat (by omega)]; omega, by rw [toNat_ofNat (by omega)]; omega, by rw [toNat_ofNat (by omega)]; omega, by simp [h1, h2, h3]⟩))
  · exact Or.inr (Or.inr (Or.inr ⟨by omega, UInt8.ofNat (240 + n / 262144), UInt8.ofNat (128 + n / 4096 % 64), UInt8.ofNat (128 + n / 64 % 64), UInt8.ofNat (128 + n % 64), by rw [toNat_ofNat (by omega)]; omega, by rw [toNat_ofNat (by omega)]; omega, by rw [toNat_ofNat (by omega)]; omega, by rw [toNat_ofNat (by omega)]; omega, by simp [h1, h2, h3]⟩))

/-- no rune is open, no byte was wrong -/
def Chk.Clean (c : Chk) : Prop := c.bad = false ∧ c.lack = 0

theorem Chk.clean_zero : Chk.zero.Clean := ⟨rfl, rfl⟩
theorem Chk.clean_whole {c : Chk} : c.whole = true ↔ c.Clean := by simp [Chk.whole, Chk.Clean]

theorem Chk.step_clean {c : Chk} (h : c.Clean) (b : Int) : c.step b = { c.begin b with bad := !leadOk b } := by
  unfold Chk.step; rw [h.1, h.2]; simp

/-- a byte behind a rune's first ones -/
theorem Chk.step_in {c : Chk} (h : c.bad = false) (hl : c.lack ≠ 0) {b : Int} (h1 : c.low ≤ b) (h2 : b ≤ c.high) : c.step b = ⟨c.lack - 1, 128, 191, false⟩ := by
  unfold Chk.step
  simp only [h, Bool.false_eq_true, if_false, hl]
  rw [if_neg (by omega)]

theorem Chk.step_out {c : Chk} (h : c.bad = false) (hl : c.lack ≠ 0) {b : Int} (h1 : b < c.low ∨ c.high < b) : c.step b = { c with bad := true } := by
  unfold Chk.step
  simp only [h, Bool.false_eq_true, if_false, hl]
  rw [if_pos h1]

/-- what a Check holds behind the first k bytes of a rune -/
theorem Chk.run_enc {c : Chk} (h : c.Clean) {r : Int} (hr : isRune r) : ∀ k, k ≤ (enc r).length → (c.run ((enc r).take k)).bad = false ∧ (0 < k → (c.run ((enc r).take k)).lack = ((enc r).length - k : Nat)) := by
  have hlack := h.2
  rcases enc_cases hr with ⟨h1, a, ha, he⟩ | ⟨h1, h2, a, b, ha, hb, he⟩ | ⟨h1, h2, a, b, d, ha, hb, hd, he⟩ | ⟨h1, a, b, d, f, ha, hb, hd, hf, he⟩
  · rw [he]
    intro k hk
    match k, hk with
    | 0, _ => exact ⟨h.1, by omega⟩
    | 1, _ =>
      simp only [List.take_succ_cons, List.take_zero, Chk.run_cons, Chk.run_nil, Chk.step_clean h, leadOk, Chk.begin, leadLack, hlack]
      unfold isRune at hr
      constructor
      · simp; omega
      · intro _; simp only [List.length_cons, List.length_nil]; repeat' (first | omega | split)
  · have s1 : c.step a.toNat = ⟨1, 128, 191, false⟩ := by
      rw [Chk.step_clean h, ha]; simp only [leadOk, Chk.begin, leadLack, leadLow, leadHigh, Chk.mk.injEq]
      refine ⟨?_, ?_, ?_, by simp; omega⟩ <;> repeat' (first | omega | split)
    have s2 : (⟨1, 128, 191, false⟩ : Chk).step b.toNat = ⟨0, 128, 191, false⟩ := Chk.step_in rfl (by decide) (by simp only []; omega) (by simp only []; omega)
    rw [he]
    intro k hk
    match k, hk with
    | 0, _ => exact ⟨h.1, by omega⟩
    | 1, _ => simp [Chk.run_cons, Chk.run_nil, s1]
    | 2, _ => simp [Chk.run_cons, Chk.run_nil, s1, s2]
  · have s1 : c.step a.toNat = ⟨2, leadLow a.toNat, leadHigh a.toNat, false⟩ := by
      rw [Chk.step_clean h, ha]; simp only [leadOk, Chk.begin, leadLack, Chk.mk.injEq]
      unfold isRune at hr
      refine ⟨?_, trivial, trivial, by simp; omega⟩ <;> repeat' (first | omega | split)
    have s2 : (⟨2, leadLow a.toNat, leadHigh a.toNat, false⟩ : Chk).step b.toNat = ⟨1, 128, 191, false⟩ := by
      unfold isRune at hr
      refine Chk.step_in rfl (by simp) ?_ ?_
      · simp only [leadLow]; repeat' (first | omega | split)
      · simp only [leadHigh]; repeat' (first | omega | split)
    have s3 : (⟨1, 128, 191, false⟩ : Chk).step d.toNat = ⟨0, 128, 191, false⟩ := Chk.step_in rfl (by decide) (by simp only []; omega) (by simp only []; omega)
    rw [he]
    intro k hk
    match k, hk with
    | 0, _ => exact ⟨h.1, by omega⟩
    | 1, _ => simp [Chk.run_cons, Chk.run_nil, s1]
    | 2, _ => simp [Chk.run_cons, Chk.run_nil, s1, s2]
    | 3, _ => simp [Chk.run_cons, Chk.run_nil, s1, s2, s3]
  · have s1 : c.step a.toNat = ⟨3, leadLow a.toNat, leadHigh a.toNat, false⟩ := by
      rw [Chk.step_clean h, ha]; simp only [leadOk, Chk.begin, leadLack, Chk.mk.injEq]
      unfold isRune at hr
      refine ⟨?_, trivial, trivial, by simp; omega⟩ <;> repeat' (first | omega | split)
    have s2 : (⟨3, leadLow a.toNat, leadHigh a.toNat, false⟩ : Chk).step b.toNat = ⟨2, 128, 191, false⟩ := by
      unfold isRune at hr
      refine Chk.step_in rfl (by simp) ?_ ?_
      · simp only [leadLow]; repeat' (first | omega | split)
      · simp only [leadHigh]; repeat' (first | omega | split)
    have s3 : (⟨2, 128, 191, false⟩ : Chk).step d.toNat = ⟨1, 128, 191, false⟩ := Chk.step_in rfl (by decide) (by simp only []; omega) (by simp only []; omega)
    have s4 : (⟨1, 128, 191, false⟩ : Chk).step f.toNat = ⟨0, 128, 191, false⟩ := Chk.step_in rfl (by decide) (by simp only []; omega) (by simp only []; omega)
    rw [he]
    intro k hk
    match k, hk with
    | 0, _ => exact ⟨h.1, by omega⟩
    | 1, _ => simp [Chk.run_cons, Chk.run_nil, s1]
    | 2, _ => simp [Chk.run_cons, Chk.run_nil, s1, s2]
    | 3, _ => simp [Chk.run_cons, Chk.run_nil, s1, s2, s3]
    | 4, _ => simp [Chk.run_cons, Chk.run_nil, s1, s2, s3, s4]

theorem Chk.run_enc_clean {c : Chk} (h : c.Clean) {r : Int} (hr : isRune r) : (c.run (enc r)).Clean := by
  have := Chk.run_enc h hr (enc r).length (Nat.le_refl _)
  rw [List.take_length] at this
  have hl := (enc_len (r := r)).1
  exact ⟨this.1, by rw [this.2 (by omega)]; simp⟩

theorem Chk.run_flat {c : Chk} (h : c.Clean) {l : List Int} (hl : ∀ r ∈ l, isRune r) : (c.run (l.flatMap enc)).Clean := by
  induction l generalizing c with
  | nil => exact h
  | cons r l ih =>
    rw [List.flatMap_cons, Chk.run_append]
    exact ih (Chk.run_enc_clean h (hl r (List.mem_cons_self ..))) (fun x hx => hl x (List.mem_cons_of_mem _ hx))

/-- the bytes behind a rune's first one begin no rune -/
theorem enc_tail {r : Int} (hr : isRune r) {k : Nat} (h0 : 0 < k) (hk : k < (enc r).length) : ∃ b t, (enc r).drop k = b :: t ∧ 128 ≤ (b.toNat : Int) ∧ (b.toNat : Int) < 192 := by
  rcases enc_cases hr with ⟨h1, a, ha, he⟩ | ⟨h1, h2, a, b, ha, hb, he⟩ | ⟨h1, h2, a, b, d, ha, hb, hd, he⟩ | ⟨h1, a, b, d, f, ha, hb, hd, hf, he⟩
  all_goals
    rw [he] at hk ⊢
    simp only [List.length_cons, List.length_nil] at hk
  · omega
  · obtain rfl : k = 1 := by omega
    exact ⟨b, [], rfl, by omega, by omega⟩
  · rcases (show k = 1 ∨ k = 2 by omega) with rfl | rfl
    · exact ⟨b, [d], rfl, by omega, by omega⟩
    · exact ⟨d, [], rfl, by omega, by omega⟩
  · rcases (show k = 1 ∨ k = 2 ∨ k = 3 by omega) with rfl | rfl | rfl
    · exact ⟨b, [d, f], rfl, by omega, by omega⟩
    · exact ⟨d, [f], rfl, by omega, by omega⟩
    · exact ⟨f, [], rfl, by omega, by omega⟩

theorem Chk.run_tail_bad {c : Chk} (h : c.Clean) {b : UInt8} {t : List UInt8} (h1 : 128 ≤ (b.toNat : Int)) (h2 : (b.toNat : Int) < 194) : (c.run (b :: t)).bad = true := by
  rw [Chk.run_cons, Chk.step_clean h]
  have e : leadOk b.toNat = false := by simp [leadOk]; omega
  rw [e, Chk.run_bad (by simp)]
  simp


/-! ### a text that is UTF-8 is runes -/

theorem enc_of1 {a : UInt8} (h : (a.toNat : Int) < 128) : isRune a.toNat ∧ enc a.toNat = [a] := by
  refine ⟨by unfold isRune; omega, ?_⟩
  unfold enc encN
  rw [Int.toNat_natCast, if_pos (by omega)]
  simp

theorem ofNat_eq {n : Nat} {a : UInt8} (h : n = a.toNat) : UInt8.ofNat n = a := by rw [h]; simp

theorem enc_of2 {a b : UInt8} (h1 : 194 ≤ (a.toNat : Int)) (h2 : (a.toNat : Int) ≤ 223) (h3 : 128 ≤ (b.toNat : Int)) (h4 : (b.toNat : Int) ≤ 191) :
    ∃ r, isRune r ∧ enc r = [a, b] := by
  refine ⟨((a.toNat - 192) * 64 + (b.toNat - 128) : Nat), by unfold isRune; omega, ?_⟩
  unfold enc encN
  rw [Int.toNat_natCast, if_neg (by omega), if_pos (by omega)]
  simp only [List.map_cons, List.map_nil, List.cons.injEq, and_true]
  exact ⟨ofNat_eq (by omega), ofNat_eq (by omega)⟩

theorem enc_of3 {a b d : UInt8} (h1 : 224 ≤ (a.toNat : Int)) (h2 : (a.toNat : Int) ≤ 239) (h3 : leadLow a.toNat ≤ (b.toNat : Int)) (h4 : (b.toNat : Int) ≤ leadHigh a.toNat)
    (h5 : 128 ≤ (d.toNat : Int)) (h6 : (d.toNat : Int) ≤ 191) : ∃ r, isRune r ∧ enc r = [a, b, d] := by
  have e1 : 128 ≤ (b.toNat : Int) ∧ ((a.toNat : Int) = 224 → 160 ≤ (b.toNat : Int)) := by
    unfold leadLow at h3; revert h3; repeat' split
    all_goals omega
  have e2 : (b.toNat : Int) ≤ 191 ∧ ((a.toNat : Int) = 237 → (b.toNat : Int) ≤ 159) := by
    unfold leadHigh at h4; revert h4; repeat' split
    all_goals omega
  refine ⟨((a.toNat - 224) * 4096 + (b.toNat - 128) * 64 + (d.toNat - 128) : Nat), by unfold isRune; omega, ?_⟩
  unfold enc encN
  rw [Int.toNat_natCast, if_neg (by omega), if_neg (by omega), if_pos (by omega)]
  simp only [List.map_cons, List.map_nil, List.cons.injEq, and_true]
  exact ⟨ofNat_eq (by omega), ofNat_eq (by omega), ofNat_eq (by omega)⟩

theorem enc_of4 {a b d f : UInt8} (h1 : 240 ≤ (a.toNat : Int)) (h2 : (a.toNat : Int) ≤ 244) (h3 : leadLow a.toNat ≤ (b.toNat : Int)) (h4 : (b.toNat : Int) ≤ leadHigh a.toNat)
    (h5 : 128 ≤ (d.toNat : Int)) (h6 : (d.toNat : Int) ≤ 191) (h7 : 128 ≤ (f.toNat : Int)) (h8 : (f.toNat : Int) ≤ 191) : ∃ r, isRune r ∧ enc r = [a, b, d, f] := by
  have e1 : 128 ≤ (b.toNat : Int) ∧ ((a.toNat : Int) = 240 → 144 ≤ (b.toNat : Int)) := by
    unfold leadLow at h3; revert h3; repeat' split
    all_goals omega
  have e2 : (b.toNat : Int) ≤ 191 ∧ ((a.toNat : Int) = 244 → (b.toNat : Int) ≤ 143) := by
    unfold leadHigh at h4; revert h4; repeat' split
    all_goals omega
  refine ⟨((a.toNat - 240) * 262144 + (b.toNat - 128) * 4096 + (d.toNat - 128) * 64 + (f.toNat - 128) : Nat), by unfold isRune; omega, ?_⟩
  unfold enc encN
  rw [Int.toNat_natCast, if_neg (by omega), if_neg (by omega), if_neg (by omega)]
  simp only [List.map_cons, List.map_nil, List.cons.injEq, and_true]
  exact ⟨ofNat_eq (by omega), ofNat_eq (by omega), ofNat_eq (by omega), ofNat_eq (by omega)⟩

/-- where a rune is open, what comes next is within its bounds, or all is wrong -/
theorem Chk.run_in {c : Chk} {l : List UInt8} (h : c.bad = false) (hl : c.lack ≠ 0) (hw : (c.run l).Clean) :
    ∃ b t, l = b :: t ∧ c.low ≤ (b.toNat : Int) ∧ (b.toNat : Int) ≤ c.high ∧ (Chk.mk (c.lack - 1) 128 191 false).run t = c.run l := by
  cases l with
  | nil => exact absurd hw.2 hl
  | cons b t =>
    by_cases hb : (b.toNat : Int) < c.low ∨ c.high < (b.toNat : Int)
    · rw [Chk.run_cons, Chk.step_out h hl hb, Chk.run_bad rfl] at hw
      exact absurd hw.1 (by simp)
    · exact ⟨b, t, rfl, by omega, by omega, by rw [Chk.run_cons, Chk.step_in h hl (by omega) (by omega)]⟩

/-- the first rune of a text that is UTF-8 -/
theorem first_rune {c : Chk} (h : c.Clean) {a : UInt8} {l : List UInt8} (hw : (c.run (a :: l)).Clean) :
    ∃ r t c', isRune r ∧ a :: l = enc r ++ t ∧ Chk.Clean c' ∧ (c'.run t).Clean := by
  rw [Chk.run_cons, Chk.step_clean h] at hw
  cases hok : leadOk a.toNat with
  | false =>
    rw [hok, Chk.run_bad rfl] at hw
    exact absurd hw.1 (by simp)
  | true =>
    rw [hok] at hw
    simp only [Chk.begin, h.2, Bool.not_true] at hw
    simp only [leadOk, decide_eq_true_eq] at hok
    rcases (show (a.toNat : Int) < 128 ∨ (194 ≤ (a.toNat : Int) ∧ (a.toNat : Int) ≤ 223) ∨ (224 ≤ (a.toNat : Int) ∧ (a.toNat : Int) ≤ 239) ∨ (240 ≤ (a.toNat : Int) ∧ (a.toNat : Int) ≤ 244) by omega) with h1 | ⟨h1, h2⟩ | ⟨h1, h2⟩ | ⟨h1, h2⟩
    · have := enc_of1 h1
      refine ⟨a.toNat, l, _, this.1, by rw [this.2]; rfl, ?_, hw⟩
      simp only [Chk.Clean, leadLack, true_and]; repeat' (first | omega | split)
    · have e : leadLack 0 a.toNat = 1 := by unfold leadLack; repeat' (first | omega | split)
      have e1 : leadLow a.toNat = 128 := by unfold leadLow; repeat' (first | omega | split)
      have e2 : leadHigh a.toNat = 191 := by unfold leadHigh; repeat' (first | omega | split)
      rw [e, e1, e2] at hw
      obtain ⟨b, t, rfl, g1, g2, g3⟩ := Chk.run_in rfl (by simp) hw
      obtain ⟨r, hr, he⟩ := enc_of2 h1 h2 g1 g2
      exact ⟨r, t, _, hr, by rw [he]; rfl, ⟨rfl, rfl⟩, by rw [← g3] at hw; exact hw⟩
    · have e : leadLack 0 a.toNat = 2 := by unfold leadLack; repeat' (first | omega | split)
      rw [e] at hw
      obtain ⟨b, t, rfl, g1, g2, g3⟩ := Chk.run_in rfl (by simp) hw
      rw [← g3] at hw
      obtain ⟨d, t, rfl, g4, g5, g6⟩ := Chk.run_in rfl (by simp) hw
      obtain ⟨r, hr, he⟩ := enc_of3 h1 h2 g1 g2 g4 g5
      exact ⟨r, t, _, hr, by rw [he]; rfl, ⟨rfl, rfl⟩, by rw [← g6] at hw; exact hw⟩
    · have e : leadLack 0 a.toNat = 3 := by unfold leadLack; repeat' (first | omega | split)
      rw [e] at hw
      obtain ⟨b, t, rfl, g1, g2, g3⟩ := Chk.run_in rfl (by simp) hw
      rw [← g3] at hw
      obtain ⟨d, t, rfl, g4, g5, g6⟩ := Chk.run_in rfl (by simp) hw
      rw [← g6] at hw
      obtain ⟨f, t, rfl, g7, g8, g9⟩ := Chk.run_in rfl (by simp) hw
      obtain ⟨r, hr, he⟩ := enc_of4 h1 h2 g1 g2 g4 g5 g7 g8
      exact ⟨r, t, _, hr, by rw [he]; rfl, ⟨rfl, rfl⟩, by rw [← g9] at hw; exact hw⟩

theorem runes_of_clean : ∀ (n : Nat) (l : List UInt8), l.length ≤ n → ∀ c : Chk, c.Clean → (c.run l).Clean → ∃ rs : List Int, (∀ r ∈ rs, isRune r) ∧ l = rs.flatMap enc := by
  intro n
  induction n with
  | zero =>
    intro l hl c _ _
    have : l = [] := List.length_eq_zero_iff.1 (by omega)
    exact ⟨[], by simp, by simp [this]⟩
  | succ n ih =>
    intro l hl c hc hw
    cases l with
    | nil => exact ⟨[], by simp, by simp⟩
    | cons a l =>
      obtain ⟨r, t, c', hr, he, hc', hw'⟩ := first_rune hc hw
      have hlen : t.length ≤ n := by
        have := congrArg List.length he
        have := (enc_len (r := r)).1
        simp at *; omega
      obtain ⟨rs, h1, h2⟩ := ih t hlen c' hc' hw'
      exact ⟨r :: rs, by intro x hx; rcases List.mem_cons.1 hx with rfl | hx; exact hr; exact h1 x hx, by rw [he, h2]; simp⟩

/-- a text is UTF-8 just if it is runes one behind the other -/
theorem utf8_iff {l : List UInt8} : utf8 l = true ↔ ∃ rs : List Int, (∀ r ∈ rs, isRune r) ∧ l = rs.flatMap enc := by
  unfold utf8
  rw [Chk.clean_whole]
  constructor
  · exact runes_of_clean _ l (Nat.le_refl _) _ Chk.clean_zero
  · rintro ⟨rs, h1, rfl⟩
    exact Chk.run_flat Chk.clean_zero h1

theorem utf8_flat {rs : List Int} (h : ∀ r ∈ rs, isRune r) : utf8 (rs.flatMap enc) = true := utf8_iff.2 ⟨rs, h, rfl⟩

/-! ### a cut -/

/-- the places between runes -/
def bounds : List Int → List Nat
  | [] => [0]
  | r :: rs => 0 :: (bounds rs).map (· + (enc r).length)

theorem zero_mem_bounds (rs : List Int) : 0 ∈ bounds rs := by cases rs <;> simp [bounds]

theorem cut_flat {rs : List Int} (h : ∀ r ∈ rs, isRune r) : ∀ {c c' : Chk}, c.Clean → c'.Clean → ∀ k, k ≤ (rs.flatMap enc).length →
    (c.run ((rs.flatMap enc).take k)).bad = false ∧ ((c.run ((rs.flatMap enc).take k)).lack = 0 ↔ k ∈ bounds rs) ∧ ((c'.run ((rs.flatMap enc).drop k)).Clean ↔ k ∈ bounds rs) := by
  induction rs with
  | nil =>
    intro c c' hc hc' k hk
    have : k = 0 := by simpa using hk
    subst this
    simp [bounds, Chk.run_nil, hc.1, hc.2, hc']
  | cons r rs ih =>
    intro c c' hc hc' k hk
    have hr := h r (List.mem_cons_self ..)
    have hrs : ∀ x ∈ rs, isRune x := fun x hx => h x (List.mem_cons_of_mem _ hx)
    have hlen := (enc_len (r := r)).1
    rw [List.flatMap_cons] at hk ⊢
    rw [List.length_append] at hk
    by_cases h1 : k < (enc r).length
    · rw [List.take_append_of_le_length (by omega), List.drop_append_of_le_length (by omega)]
      have hp := Chk.run_enc hc hr k (by omega)
      by_cases h0 : k = 0
      · subst h0
        simp only [List.take_zero, List.drop_zero, Chk.run_nil, zero_mem_bounds, iff_true]
        refine ⟨hc.1, hc.2, ?_⟩
        rw [← List.flatMap_cons]
        exact Chk.run_flat hc' h
      · have hnot : k ∉ bounds (r :: rs) := by
          simp only [bounds, List.mem_cons, List.mem_map, not_or, not_exists]
          exact ⟨h0, fun x hx => by omega⟩
        refine ⟨hp.1, ?_, ?_⟩
        · rw [hp.2 (by omega)]
          simp only [hnot, iff_false]; omega
        · simp only [hnot, iff_false]
          obtain ⟨b, t, he, g1, g2⟩ := enc_tail hr (by omega) h1
          rw [he, List.cons_append]
          intro hcl
          have := Chk.run_tail_bad hc' (t := t ++ rs.flatMap enc) g1 (by omega)
          rw [hcl.1] at this
          cases this
    · obtain ⟨j, rfl⟩ : ∃ j, k = (enc r).length + j := ⟨k - (enc r).length, by omega⟩
      rw [List.take_length_add_append, List.drop_length_add_append, Chk.run_append]
      have hc2 := Chk.run_enc_clean hc hr
      obtain ⟨g1, g2, g3⟩ := ih hrs hc2 hc' j (by omega)
      have hmem : (enc r).length + j ∈ bounds (r :: rs) ↔ j ∈ bounds rs := by
        simp only [bounds, List.mem_cons, List.mem_map]
        constructor
        · rintro (h0 | ⟨x, hx, he⟩)
          · omega
          · have : x = j := by omega
            exact this ▸ hx
        · intro hj; exact Or.inr ⟨j, hj, by omega⟩
      exact ⟨g1, g2.trans hmem.symm, g3.trans hmem.symm⟩

theorem bounds_snoc (rs : List Int) (r : Int) : ∀ k, k ∈ bounds (rs ++ [r]) ↔ k ∈ bounds rs ∨ k = (rs.flatMap enc).length + (enc r).length := by
  induction rs with
  | nil => intro k; simp [bounds]
  | cons x rs ih =>
    intro k
    simp only [List.cons_append, bounds, List.mem_cons, List.mem_map, ih, List.flatMap_cons, List.length_append]
    constructor
    · rintro (h | ⟨y, h | h, rfl⟩)
      · exact Or.inl (Or.inl h)
      · exact Or.inl (Or.inr ⟨y, h, rfl⟩)
      · exact Or.inr (by omega)
    · rintro ((h | ⟨y, h, rfl⟩) | h)
      · exact Or.inl h
      · exact Or.inr ⟨y, Or.inl h, rfl⟩
      · exact Or.inr ⟨_, Or.inr rfl, by omega⟩

/-- a byte of a longer rune turned to one below 128: no text -/
theorem utf8_turned {l : List UInt8} (h : utf8 l = true) {j : Nat} (hj : j < l.length) (hb : 128 ≤ (l[j].toNat : Int)) {y : UInt8} (hy : (y.toNat : Int) < 128) : utf8 (l.take j ++ y :: l.drop (j + 1)) = false := by
  obtain ⟨rs, hr, rfl⟩ := utf8_iff.1 h
  obtain ⟨g1, g2, g3⟩ := cut_flat hr Chk.clean_zero Chk.clean_zero j (by omega)
  obtain ⟨f1, f2, f3⟩ := cut_flat hr Chk.clean_zero Chk.clean_zero (j + 1) (by omega)
  have ht : (rs.flatMap enc).take (j + 1) = (rs.flatMap enc).take j ++ [(rs.flatMap enc)[j]] := List.take_succ_eq_append_getElem hj
  rw [ht, Chk.run_append, Chk.run_cons, Chk.run_nil] at f1 f2
  unfold utf8
  rw [Chk.run_append, Chk.run_cons]
  generalize hc : Chk.zero.run ((rs.flatMap enc).take j) = c at *
  have hfit : c.Fit := hc ▸ Chk.fit_run Chk.fit_zero _
  by_cases hl : c.lack = 0
  · have hcl : c.Clean := ⟨g1, hl⟩
    rw [Chk.step_clean hcl] at f1 f2 ⊢
    simp only [Chk.begin, leadLack, hl] at f1 f2
    have hok : leadOk (rs.flatMap enc)[j].toNat = true := by simpa using f1
    simp only [leadOk, decide_eq_true_eq] at hok
    have hnot : ¬ j + 1 ∈ bounds rs := by
      rw [← f2]
      repeat' (first | omega | split)
    have hcl2 : Chk.Clean { c.begin y.toNat with bad := !leadOk y.toNat } := by
      refine ⟨by simp [leadOk]; omega, ?_⟩
      simp only [Chk.begin, leadLack, hl]
      repeat' (first | omega | split)
    obtain ⟨_, _, e3⟩ := cut_flat hr Chk.clean_zero hcl2 (j + 1) (by omega)
    rw [← Bool.not_eq_true, Chk.clean_whole, e3]
    exact hnot
  · have hlow : 128 ≤ c.low := by
      -- a rune is open: its next byte has a bound of 128 or more
      have key : ∀ (m : List UInt8) (d : Chk), 128 ≤ d.low ∨ d.lack = 0 → 128 ≤ (d.run m).low ∨ (d.run m).lack = 0 := by
        intro m
        induction m with
        | nil => intro d hd; exact hd
        | cons b m ih =>
          intro d hd
          rw [Chk.run_cons]
          refine ih _ ?_
          unfold Chk.step Chk.begin leadLow
          repeat' split
          all_goals first | exact hd | (left; simp; done) | (left; simp only []; omega)
      have := key ((rs.flatMap enc).take j) Chk.zero (Or.inr rfl)
      rw [hc] at this
      omega
    rw [Chk.step_out g1 hl (Or.inl (by omega)), Chk.run_bad rfl]
    rfl

end Go.Tru
