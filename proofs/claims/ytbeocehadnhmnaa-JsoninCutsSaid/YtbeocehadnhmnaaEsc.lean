/-
  escape.Reader in the middle of a block: hex, may, plain, behind, digit, Step, Whole: their contracts.
-/
import Derived.Test.YtbeocehadnhmnaaUtfCore
import Derived.Test.YtbeocehadnhmnaaEscModel
import Derived.Test.YtbeocehadnhmnaaIdx
import Derived.Laws.BitsAllLaws
import Derived.WalkLawsBesides
namespace Go.Proofs.Ytbeocehadnhmnaa
open Go.RowKit Go.Tru

/-! ### bits -/

theorem hex_or (x : Nat) (hx : x < 256) : ((x ||| 32 : Nat) : Int) < 97 ∨ 102 < ((x ||| 32 : Nat) : Int) ∨ ((x ||| 32 : Nat) : Int) - 87 = (if 97 ≤ (x : Int) ∧ (x : Int) ≤ 102 then (x : Int) - 87 else (x : Int) - 55) ∧ (97 ≤ (x : Int) ∧ (x : Int) ≤ 102 ∨ 65 ≤ (x : Int) ∧ (x : Int) ≤ 70) := by
  have h : ∀ y : Fin 256, ((y.1 ||| 32 : Nat) : Int) < 97 ∨ 102 < ((y.1 ||| 32 : Nat) : Int) ∨ ((y.1 ||| 32 : Nat) : Int) - 87 = (if 97 ≤ (y.1 : Int) ∧ (y.1 : Int) ≤ 102 then (y.1 : Int) - 87 else (y.1 : Int) - 55) ∧ (97 ≤ (y.1 : Int) ∧ (y.1 : Int) ≤ 102 ∨ 65 ≤ (y.1 : Int) ∧ (y.1 : Int) ≤ 70) := by decide +kernel
  exact h ⟨x, hx⟩

theorem hex_or2 (x : Nat) (hx : x < 256) : (97 ≤ x ∧ x ≤ 102 ∨ 65 ≤ x ∧ x ≤ 70) → 97 ≤ x ||| 32 ∧ x ||| 32 ≤ 102 := by
  have h : ∀ y : Fin 256, (97 ≤ y.1 ∧ y.1 ≤ 102 ∨ 65 ≤ y.1 ∧ y.1 ≤ 70) → 97 ≤ y.1 ||| 32 ∧ y.1 ||| 32 ≤ 102 := by decide +kernel
  exact h ⟨x, hx⟩

/-- the lower-case form of a byte: what hex makes of it -/
theorem hex_low (x : Int) (h0 : 0 ≤ x) (h1 : x ≤ 255) : ∃ y : Int, bits .or .u8 x 32 = y ∧ 0 ≤ y ∧ y ≤ 255 ∧ (97 ≤ y ∧ y ≤ 102 → ¬ (48 ≤ x ∧ x ≤ 57) ∧ hexOf x = y - 87) ∧ (¬ (97 ≤ y ∧ y ≤ 102) → ¬ (48 ≤ x ∧ x ≤ 57) → hexOf x = -1) := by
  obtain ⟨n, rfl⟩ : ∃ n : Nat, x = n := ⟨x.toNat, by omega⟩
  have hn : n < 256 := by omega
  have hb : n ||| 32 < 256 := Nat.or_lt_two_pow (n := 8) hn (by decide)
  refine ⟨((n ||| 32 : Nat) : Int), u8_or_nat n 32 hn (by decide), by omega, by omega, fun hy => ?_, fun hy hd => ?_⟩
  · rcases hex_or n hn with h | h | ⟨h, h'⟩
    · omega
    · omega
    · refine ⟨by omega, ?_⟩
      unfold hexOf
      rw [if_neg (by omega), h]
      split
      · rfl
      · rw [if_pos (by omega)]
  · unfold hexOf
    rw [if_neg hd]
    have h2 := hex_or2 n hn
    rw [if_neg (by omega), if_neg (by omega)]

theorem hex_any (x : Int) (w : World) (h0 : 0 ≤ x) (h1 : x ≤ 255) :
    Calls Try.prog 63 #[.int .u8 x] w fun e w' => e = .returned (.int .i64 (hexOf x)) ∧ w = w' := by
  obtain ⟨y, hy, hy0, hy1, ha, hb⟩ := hex_low x h0 h1
  by_cases hd : 48 ≤ x ∧ x ≤ 57
  · have he : hexOf x = x - 48 := by unfold hexOf; rw [if_pos hd]
    have HE := Lib.hid he
    obtain ⟨d0, d1⟩ := hd
    clear ha hb he
    go_enter Try.func63, Try.ntmps63
    go_wp2
    go_ret
    exact ⟨ret_int (by rw [HE.out]), rfl⟩
  · by_cases hl : 97 ≤ y ∧ y ≤ 102
    · have HE := Lib.hid (ha hl).2
      obtain ⟨l0, l1⟩ := hl
      clear ha hb
      rcases (show x < 48 ∨ 57 < x by omega) with hx | hx
      all_goals
        clear hd
        go_enter Try.func63, Try.ntmps63
        go_wp2
        go_ret
        exact ⟨ret_int (by rw [HE.out]; omega), rfl⟩
    · have HE := Lib.hid (hb hl hd)
      clear ha hb
      rcases (show x < 48 ∨ 57 < x by omega) with hx | hx
      all_goals
        rcases (show y < 97 ∨ 102 < y by omega) with hl2 | hl2
        all_goals
          clear hd hl
          go_enter Try.func63, Try.ntmps63
          go_wp2
          go_ret
          exact ⟨ret_int (by rw [HE.out]), rfl⟩

/-! ### the Reader's cells -/

theorem rdr_cell {w : World} {b : Nat} {pre post : List Value} {t : TypeId} {r : Rdr} {off : Nat} (h : Has w b (pre ++ r.cells ++ post) t) (ho : off = pre.length) :
    w.cell? ⟨b, off + 4, none⟩ = some (.int .i64 r.state) ∧ w.cell? ⟨b, off + 5, none⟩ = some (.int .i64 r.r) ∧ w.cell? ⟨b, off + 6, none⟩ = some (.int .i64 r.n) ∧ w.cell? ⟨b, off + 7, none⟩ = some (.int .i64 r.pair) ∧ w.cell? ⟨b, off + 8, none⟩ = some (.int .i64 r.e) :=
  ⟨mid_cell h ho 4 (by simp [Rdr.cells, Chk.cells]), mid_cell h ho 5 (by simp [Rdr.cells, Chk.cells]), mid_cell h ho 6 (by simp [Rdr.cells, Chk.cells]), mid_cell h ho 7 (by simp [Rdr.cells, Chk.cells]), mid_cell h ho 8 (by simp [Rdr.cells, Chk.cells])⟩

theorem rdr_free {w : World} {b : Nat} {cs : List Value} {t : TypeId} (h : Has w b cs t) (off : Nat) :
    w.frozen? ⟨b, off + 4, none⟩ = false ∧ w.frozen? ⟨b, off + 5, none⟩ = false ∧ w.frozen? ⟨b, off + 6, none⟩ = false ∧ w.frozen? ⟨b, off + 7, none⟩ = false ∧ w.frozen? ⟨b, off + 8, none⟩ = false :=
  ⟨h.free _, h.free _, h.free _, h.free _, h.free _⟩

set_option maxHeartbeats 1000000 in
theorem may_any (b : Nat) (pre post : List Value) (t : TypeId) (r : Rdr) (x : Int) (w : World) (h : Has w b (pre ++ r.cells ++ post) t) (off : Nat) (hoff : off = pre.length) (hx : 0 ≤ x) (hx2 : x ≤ 255) :
    Calls Try.prog 56 #[.pointer (some ⟨b, off, none⟩), .int .u8 x] w fun e w' => e = .returned (.bool (r.may x)) ∧ w = w' := by
  obtain ⟨g4, g5, g6, g7, g8⟩ := rdr_cell h hoff
  have hex := fun W => hex_any x W hx hx2
  clear h hoff
  by_cases h0 : r.state = 0
  · have hm : r.may x = decide (x = 92) := by unfold Rdr.may; rw [if_pos h0]
    rw [h0] at g4
    have HM := Lib.hid hm
    clear h0 hm hex
    go_enter Try.func56, Try.ntmps56
    go_wp2
    go_ret
    exact ⟨ret_bool (by rw [HM.out, Bool.eq_iff_iff]; simp), rfl⟩
  by_cases h1 : r.state = 1
  · have hm : r.may x = decide (x = 117) := by unfold Rdr.may; rw [if_neg h0, if_pos h1]
    rw [h1] at g4
    have HM := Lib.hid hm
    clear h0 h1 hm hex
    go_enter Try.func56, Try.ntmps56
    go_wp2
    go_ret
    exact ⟨ret_bool (by rw [HM.out, Bool.eq_iff_iff]; simp), rfl⟩
  have b0 : (r.state == 0) = false := by simp [h0]
  have b1 : (r.state == 1) = false := by simp [h1]
  by_cases h2 : r.n = 0
  · have hm : r.may x = decide (hexOf x = 13) := by unfold Rdr.may; rw [if_neg h0, if_neg h1, if_pos h2]
    rw [h2] at g6
    have HM := Lib.hid hm
    clear h0 h1 h2 hm
    go_enter Try.func56, Try.ntmps56
    go_wp2_with fail
    refine (hex _).mono ?_
    rintro e w1 ⟨rfl, rfl⟩
    go_wp2_with fail
    go_ret
    exact ⟨ret_bool (by rw [HM.out, Bool.eq_iff_iff]; simp), rfl⟩
  have b2 : (r.n == 0) = false := by simp [h2]
  by_cases h3 : r.n = 1
  · have hm : r.may x = decide (12 ≤ hexOf x) := by unfold Rdr.may; rw [if_neg h0, if_neg h1, if_neg h2, if_pos h3]
    rw [h3] at g6
    have HM := Lib.hid hm
    clear h0 h1 h2 h3 hm b2
    go_enter Try.func56, Try.ntmps56
    go_wp2_with fail
    refine (hex _).mono ?_
    rintro e w1 ⟨rfl, rfl⟩
    go_wp2_with fail
    go_ret
    exact ⟨ret_bool (by rw [HM.out]), rfl⟩
  · have b3 : (r.n == 1) = false := by simp [h3]
    have hm : r.may x = decide (0 ≤ hexOf x) := by unfold Rdr.may; rw [if_neg h0, if_neg h1, if_neg h2, if_neg h3]
    have HM := Lib.hid hm
    clear h0 h1 h2 h3 hm
    go_enter Try.func56, Try.ntmps56
    go_wp2_with fail
    refine (hex _).mono ?_
    rintro e w1 ⟨rfl, rfl⟩
    go_wp2_with fail
    go_ret
    exact ⟨ret_bool (by rw [HM.out]), rfl⟩

/-- the Reader's answer: text, error -/
def txtVal (l : List UInt8) (e : Int) : Value := .tuple #[.string ⟨l.toArray⟩, .int .i64 e]

/-- what a method leaves of the Reader -/
def RdrPost (w : World) (b : Nat) (pre post : List Value) (t : TypeId) (r' : Rdr) (w' : World) : Prop := Has w' b (pre ++ r'.cells ++ post) t ∧ Keeps [b] w w'

theorem rdrPost_of {w : World} {b : Nat} {pre post : List Value} {t : TypeId} {r' : Rdr} {w' : World} (h : Has w' b (pre ++ r'.cells ++ post) t) (k : Keeps [b] w w') : RdrPost w b pre post t r' w' := ⟨h, k⟩

theorem rdr_split (pre post : List Value) (r : Rdr) : pre ++ r.cells ++ post = pre ++ r.c.cells ++ ([.int .i64 r.state, .int .i64 r.r, .int .i64 r.n, .int .i64 r.pair, .int .i64 r.e] ++ post) := by
  simp [Rdr.cells]

theorem one_str (x : Int) : strOfNums [x] = ⟨#[UInt8.ofNat x.toNat]⟩ := rfl

end Go.Proofs.Ytbeocehadnhmnaa
