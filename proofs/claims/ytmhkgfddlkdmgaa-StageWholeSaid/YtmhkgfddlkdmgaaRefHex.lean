/-
  truchmanref1.hex, four, low, blank: they end, and tell no more than is there.
-/
import Derived.Test.YtmhkgfddlkdmgaaRows
import Derived.Test.YtmhkgfddlkdmgaaTru
import Derived.Lib.Strings
namespace Go.Tru
/-- the world is as it was -/
def Stood (w w' : World) : Prop := w = w'
theorem Stood.refl (w : World) : Stood w w := rfl
end Go.Tru
namespace Go.Proofs.Ytmhkgfddlkdmgaa
open Go.RowKit Go.Tru

set_option maxHeartbeats 800000 in
theorem hex_any (b : Int) (w : World) : Calls Try.prog 28 #[.int .u8 b] w fun e w' => ∃ d : Int, e = .returned (.int .i64 d) ∧ Stood w w' := by
  go_enter Try.func28, Try.ntmps28
  by_cases h1 : 48 ≤ b
  all_goals by_cases h2 : b ≤ 57
  all_goals by_cases h3 : 97 ≤ b
  all_goals by_cases h4 : b ≤ 102
  all_goals by_cases h5 : 65 ≤ b
  all_goals by_cases h6 : b ≤ 70
  all_goals first | omega | skip
  all_goals
    go_wp2_with fail
    go_ret
    exact ⟨⟨_, rfl⟩, .refl _⟩

set_option maxHeartbeats 800000 in
theorem blank_any (b : Int) (w : World) : Calls Try.prog 18 #[.int .u8 b] w fun e w' => e = .returned (.bool (decide (b = 32 ∨ b = 9 ∨ b = 10 ∨ b = 13))) ∧ Stood w w' := by
  go_enter Try.func18, Try.ntmps18
  by_cases h1 : b = 32
  · subst h1
    go_wp2_with fail
    go_ret
    exact ⟨rfl, .refl _⟩
  by_cases h2 : b = 9
  · subst h2
    go_wp2_with fail
    go_ret
    exact ⟨rfl, .refl _⟩
  by_cases h3 : b = 10
  · subst h3
    go_wp2_with fail
    go_ret
    exact ⟨rfl, .refl _⟩
  by_cases h4 : b = 13
  · subst h4
    go_wp2_with fail
    go_ret
    exact ⟨rfl, .refl _⟩
  have e1 : (b == 32) = false := beq_eq_false_iff_ne.2 h1
  have e2 : (b == 9) = false := beq_eq_false_iff_ne.2 h2
  have e3 : (b == 10) = false := beq_eq_false_iff_ne.2 h3
  have e4 : (b == 13) = false := beq_eq_false_iff_ne.2 h4
  have hd : decide (b = 32 ∨ b = 9 ∨ b = 10 ∨ b = 13) = false := decide_eq_false (by omega)
  rw [hd]
  clear h1 h2 h3 h4 hd
  go_wp2_with fail
  go_ret
  exact ⟨rfl, .refl _⟩

/-- four hex digits, if they are there -/
def FourPost (s : ByteArray) (w : World) (e : Ending) (w' : World) : Prop :=
  ∃ (v n x : Int), e = .returned (.tuple #[.int .i64 v, .int .i64 n, .int .i64 x]) ∧ 0 ≤ n ∧ n ≤ 4 ∧ n ≤ s.size ∧ (x = 0 ∨ x = 2) ∧ Stood w w'

set_option maxHeartbeats 1600000 in
theorem four_any (s : ByteArray) (hs : s.size ≤ 1000) (w : World) : Calls Try.prog 24 #[.string s] w (FourPost s w) := by
  go_enter Try.func24, Try.ntmps24
  go_wp2_with fail
  go_loopw [5, 6] (fun v k wr => ∃ (x : Int) (j : Nat), v = .int .i64 x ∧ k = .int .i64 j ∧ j ≤ 4 ∧ j ≤ s.size ∧ Stood w wr) (fun _ k _ => 4 - (intOf k).toNat)
  case atStart => exact ⟨0, 0, rfl, rfl, by omega, Nat.zero_le _, .refl _⟩
  case round =>
    obtain ⟨v, j, rfl, rfl, hj, hjs, hst0⟩ := hrel
    cases (show _ = _ from hst0)
    clear hst0
    by_cases h4 : j < 4
    · have hi : (j : Int) < 4 := by omega
      by_cases hlt : j < s.size
      · have hi2 : ¬ (s.size : Int) ≤ (j : Int) := by omega
        have hi3 : (j : Int) < (s.size : Int) := by omega
        obtain ⟨b, hb⟩ : ∃ b : Int, (s[j].toNat : Int) = b := ⟨_, rfl⟩
        go_wp2_with fail
        refine (hex_any b _).mono ?_
        rintro e w1 ⟨d, rfl, hst⟩
        cases (show _ = _ from hst)
        by_cases hd : d < 0
        · go_wp2_with fail
          go_ret3
          exact ⟨_, _, _, rfl, by omega, by omega, by omega, Or.inr rfl, .refl _⟩
        · go_wp2_with fail
          go_roundw
          case rel => exact ⟨_, j + 1, rfl, by go_num, by omega, by omega, .refl _⟩
          case measure => simp [intOf]; omega
      · have hi2 : (s.size : Int) ≤ (j : Int) := by omega
        go_wp2_with fail
        go_ret3
        exact ⟨_, _, _, rfl, by omega, by omega, by omega, Or.inl rfl, .refl _⟩
    · have hge : ¬ (j : Int) < 4 := by omega
      go_wp2_with fail
      go_ret3
      exact ⟨_, _, _, rfl, by omega, by omega, by omega, Or.inl rfl, .refl _⟩

/-- the beginning of a low surrogate's escape -/
def LowPost (s : ByteArray) (w : World) (e : Ending) (w' : World) : Prop :=
  ∃ (k : Int) (ok : Bool), e = .returned (.tuple #[.int .i64 k, .bool ok]) ∧ 0 ≤ k ∧ k ≤ 6 ∧ k ≤ s.size ∧ Stood w w'

set_option maxHeartbeats 1600000 in
theorem low_any (s : ByteArray) (hs : s.size ≤ 1000) (w : World) : Calls Try.prog 25 #[.string s] w (LowPost s w) := by
  go_enter Try.func25, Try.ntmps25
  go_wp2_with fail
  go_loopw [4] (fun k wr => ∃ (j : Nat), k = .int .i64 j ∧ j ≤ 6 ∧ j ≤ s.size ∧ Stood w wr) (fun k _ => 6 - (intOf k).toNat)
  case atStart => exact ⟨0, rfl, by omega, Nat.zero_le _, .refl _⟩
  case round =>
    obtain ⟨j, rfl, hj, hjs, hst0⟩ := hrel
    cases (show _ = _ from hst0)
    clear hst0
    by_cases h6 : j < 6
    · have hi : (j : Int) < 6 := by omega
      by_cases hlt : j < s.size
      · have hi2 : ¬ (s.size : Int) ≤ (j : Int) := by omega
        have hi3 : (j : Int) < (s.size : Int) := by omega
        obtain ⟨b, hb⟩ : ∃ b : Int, (s[j].toNat : Int) = b := ⟨_, rfl⟩
        have hreg := s[j].toNat_lt
        have hb0 : 0 ≤ b := by omega
        clear hreg
        rcases (show j = 0 ∨ j = 1 ∨ j = 2 ∨ j = 3 ∨ j = 4 ∨ j = 5 by omega) with rfl | rfl | rfl | rfl | rfl | rfl
        · have hz : ¬ s.size = 0 := by omega
          have hz2 : ¬ s = ByteArray.empty := fun h => hz (by rw [h]; rfl)
          by_cases hq : b = 92
          · subst hq
            go_wp2_with fail
            first
              | exact ⟨⟨1, rfl, by omega, by omega, .refl _⟩, by decide⟩
              | (go_roundw
                 case rel => exact ⟨1, by go_num, by omega, by omega, .refl _⟩
                 case measure => simp [intOf])
          · have hq2 : (b == 92) = false := beq_eq_false_iff_ne.2 hq
            clear hq
            go_wp2_with fail
            go_ret2
            exact ⟨_, _, rfl, by omega, by omega, by omega, .refl _⟩
        · skip
          by_cases hq : b = 117
          · subst hq
            go_wp2_with fail
            first
              | exact ⟨⟨2, rfl, by omega, by omega, .refl _⟩, by decide⟩
              | (go_roundw
                 case rel => exact ⟨2, by go_num, by omega, by omega, .refl _⟩
                 case measure => simp [intOf])
          · have hq2 : (b == 117) = false := beq_eq_false_iff_ne.2 hq
            clear hq
            go_wp2_with fail
            go_ret2
            exact ⟨_, _, rfl, by omega, by omega, by omega, .refl _⟩
        · skip
          by_cases hq : b = 100
          · subst hq
            go_wp2_with fail
            first
              | exact ⟨⟨3, rfl, by omega, by omega, .refl _⟩, by decide⟩
              | (go_roundw
                 case rel => exact ⟨3, by go_num, by omega, by omega, .refl _⟩
                 case measure => simp [intOf])
          · have hq2 : (b == 100) = false := beq_eq_false_iff_ne.2 hq
            clear hq
            by_cases hr : b = 68
            · subst hr
              go_wp2_with fail
              first
                | exact ⟨⟨3, rfl, by omega, by omega, .refl _⟩, by decide⟩
                | (go_roundw
                   case rel => exact ⟨3, by go_num, by omega, by omega, .refl _⟩
                   case measure => simp [intOf])
            · have hr2 : (b == 68) = false := beq_eq_false_iff_ne.2 hr
              clear hr
              go_wp2_with fail
              go_ret2
              exact ⟨_, _, rfl, by omega, by omega, by omega, .refl _⟩
        · skip
          go_wp2_with fail
          refine (hex_any b _).mono ?_
          rintro e w1 ⟨d, rfl, hst⟩
          cases (show _ = _ from hst)
          cases hd : decide (12 ≤ d) with
          | true =>
            go_wp2_with fail
            first
              | exact ⟨⟨4, rfl, by omega, by omega, .refl _⟩, by decide⟩
              | (go_roundw
                 case rel => exact ⟨4, by go_num, by omega, by omega, .refl _⟩
                 case measure => simp [intOf])
          | false =>
            go_wp2_with fail
            go_ret2
            exact ⟨_, _, rfl, by omega, by omega, by omega, .refl _⟩
        · skip
          go_wp2_with fail
          refine (hex_any b _).mono ?_
          rintro e w1 ⟨d, rfl, hst⟩
          cases (show _ = _ from hst)
          cases hd : decide (0 ≤ d) with
          | true =>
            go_wp2_with fail
            first
              | exact ⟨⟨5, rfl, by omega, by omega, .refl _⟩, by decide⟩
              | (go_roundw
                 case rel => exact ⟨5, by go_num, by omega, by omega, .refl _⟩
                 case measure => simp [intOf])
          | false =>
            go_wp2_with fail
            go_ret2
            exact ⟨_, _, rfl, by omega, by omega, by omega, .refl _⟩
        · skip
          go_wp2_with fail
          refine (hex_any b _).mono ?_
          rintro e w1 ⟨d, rfl, hst⟩
          cases (show _ = _ from hst)
          cases hd : decide (0 ≤ d) with
          | true =>
            go_wp2_with fail
            first
              | exact ⟨⟨6, rfl, by omega, by omega, .refl _⟩, by decide⟩
              | (go_roundw
                 case rel => exact ⟨6, by go_num, by omega, by omega, .refl _⟩
                 case measure => simp [intOf])
          | false =>
            go_wp2_with fail
            go_ret2
            exact ⟨_, _, rfl, by omega, by omega, by omega, .refl _⟩
      · have hi2 : (s.size : Int) ≤ (j : Int) := by omega
        go_wp2_with fail
        go_ret2
        exact ⟨_, _, rfl, by omega, by omega, by omega, .refl _⟩
    · have hge : ¬ (j : Int) < 6 := by omega
      go_wp2_with fail
      go_ret2
      exact ⟨_, _, rfl, by omega, by omega, by omega, .refl _⟩

/-- what lead tells -/
def Lead4 (w : World) (e : Ending) (w' : World) : Prop :=
  ∃ (n : Nat) (l h : Int), e = .returned (.tuple #[.int .i64 n, .int .u8 l, .int .u8 h]) ∧ n ≤ 4 ∧ Stood w w'

set_option maxRecDepth 100000 in
theorem lead_four (b : Int) (hb0 : 0 ≤ b) (w : World) :
    Calls Try.prog 27 #[.int .u8 b] w (Lead4 w) := by
  rcases (show b < 128 ∨ 128 ≤ b ∧ b < 194 ∨ 194 ≤ b ∧ b ≤ 223 ∨ b = 224 ∨ b = 237 ∨ (225 ≤ b ∧ b < 237 ∨ 237 < b ∧ b ≤ 239) ∨ b = 240 ∨ 241 ≤ b ∧ b ≤ 243 ∨ b = 244 ∨ 244 < b by omega) with h | ⟨h, h'⟩ | ⟨h, h'⟩ | rfl | rfl | h | rfl | ⟨h, h'⟩ | rfl | h
  all_goals
    try have h0 : (b == 224) = false := by simp; omega
    try have h1 : (b == 237) = false := by simp; omega
    try have h2 : (b == 240) = false := by simp; omega
    try have h3 : (b == 244) = false := by simp; omega
    try rcases h with ⟨h, h'⟩ | ⟨h, h'⟩
  all_goals
    go_enter Try.func27, Try.ntmps27
    go_wp2_with fail
    go_ret3
    first
      | exact ⟨0, _, _, rfl, by omega, .refl _⟩
      | exact ⟨1, _, _, rfl, by omega, .refl _⟩
      | exact ⟨2, _, _, rfl, by omega, .refl _⟩
      | exact ⟨3, _, _, rfl, by omega, .refl _⟩
      | exact ⟨4, _, _, rfl, by omega, .refl _⟩
end Go.Proofs.Ytmhkgfddlkdmgaa
