/-
  UTF-8 keeps the order of runes; a rune's length.
-/
import Derived.Test.YtcbpjongpfcmkaaUtfPlain
import Derived.Lib.Strings
namespace Go.Tru
open Go.RowKit

def lenOf (r : Int) : Int := 1 + (if 128 ≤ r then 1 else 0) + (if 2048 ≤ r then 1 else 0) + (if 65536 ≤ r then 1 else 0)

theorem enc_lenOf {r : Int} (h : isRune r) : ((enc r).length : Int) = lenOf r := by
  rcases enc_cases h with ⟨h1, a, ha, he⟩ | ⟨h1, h2, a, b, ha, hb, he⟩ | ⟨h1, h2, a, b, d, ha, hb, hd, he⟩ | ⟨h1, a, b, d, f, ha, hb, hd, hf, he⟩
  all_goals
    rw [he]
    unfold lenOf
    simp only [List.length_cons, List.length_nil]
    repeat' (first | omega | split)

theorem less_iff {x y : UInt8} : (decide (x < y) = true) ↔ x.toNat < y.toNat := by rw [decide_eq_true_eq]; exact UInt8.lt_iff_toNat_lt
theorem beq_iff {x y : UInt8} : ((x == y) = true) ↔ x.toNat = y.toNat := by rw [beq_iff_eq]; exact UInt8.toNat_inj.symm

theorem enc_less {a b : Int} (ha : isRune a) (hb : isRune b) : Op.bytesLess (enc a) (enc b) = decide (a < b) := by
  unfold isRune at ha hb
  rcases enc_cases ha with ⟨h1, a1, ha1, he⟩ | ⟨h1, h2, a1, a2, ha1, ha2, he⟩ | ⟨h1, h2, a1, a2, a3, ha1, ha2, ha3, he⟩ | ⟨h1, a1, a2, a3, a4, ha1, ha2, ha3, ha4, he⟩
  all_goals
    rcases enc_cases hb with ⟨g1, b1, hb1, ge⟩ | ⟨g1, g2, b1, b2, hb1, hb2, ge⟩ | ⟨g1, g2, b1, b2, b3, hb1, hb2, hb3, ge⟩ | ⟨g1, b1, b2, b3, b4, hb1, hb2, hb3, hb4, ge⟩
    all_goals
      rw [he, ge, Bool.eq_iff_iff, decide_eq_true_eq]
      simp only [Op.bytesLess, Bool.or_eq_true, Bool.and_eq_true, less_iff, beq_iff, Bool.false_eq_true, and_false, or_false]
      omega

theorem enc_inj {a b : Int} (ha : isRune a) (hb : isRune b) : enc a = enc b ↔ a = b := by
  constructor
  · intro h
    have h1 := enc_less ha hb
    have h2 := enc_less hb ha
    have irr : ∀ l : List UInt8, Op.bytesLess l l = false := by
      intro l
      induction l with
      | nil => rfl
      | cons x l ih => simp [Op.bytesLess, ih]
    rw [h, irr] at h1
    rw [h, irr] at h2
    have e1 : ¬ a < b := by simpa using h1.symm
    have e2 : ¬ b < a := by simpa using h2.symm
    omega
  · rintro rfl; rfl

theorem encode_less {a b : Int} (ha : isRune a) (hb : isRune b) : Op.bytesLess (Utf8.encode a).toList (Utf8.encode b).toList = decide (a < b) := by
  rw [Lib.toList_data, Lib.toList_data, encode_enc ha, encode_enc hb, enc_less ha hb]

theorem encode_size {a : Int} (ha : isRune a) : ((Utf8.encode a).size : Int) = lenOf a := by
  rw [← enc_lenOf ha, ← encode_enc ha, Array.length_toList]; rfl

theorem encode_inj {a b : Int} (ha : isRune a) (hb : isRune b) : Utf8.encode a = Utf8.encode b ↔ a = b := by
  rw [← enc_inj ha hb, ← encode_enc ha, ← encode_enc hb]
  constructor
  · intro h; rw [h]
  · intro h
    have : (Utf8.encode a).data = (Utf8.encode b).data := Array.ext' h
    cases hx : Utf8.encode a; cases hy : Utf8.encode b
    rw [hx, hy] at this
    simp_all

theorem encode_beq {a b : Int} (ha : isRune a) (hb : isRune b) : (((Utf8.encode a).toList == (Utf8.encode b).toList) == (a == b)) = true := by
  rw [Lib.toList_data, Lib.toList_data, encode_enc ha, encode_enc hb, beq_iff_eq, Bool.eq_iff_iff, beq_iff_eq, beq_iff_eq]
  exact enc_inj ha hb
end Go.Tru
