/-
  truchmanref1.Digit, word, Number: they end, and tell no more bytes than there are.
-/
import Derived.Test.YtmhkgfddlkdmgaaRefHex
import Derived.Lib.Hide
import Derived.Laws.ResultCell
import Derived.Deep.QuietTactic
import Derived.BigQuiet
namespace Go.Proofs.Ytmhkgfddlkdmgaa
open Go.RowKit Go.Tru

/-- the beginning of a number -/
def DigPost (s : ByteArray) (w : World) (e : Ending) (w' : World) : Prop :=
  ∃ (n : Nat) (x : Int), e = .returned (.tuple #[.int .i64 n, .int .i64 x]) ∧ n ≤ s.size ∧ (x = 0 → 0 < n) ∧ Stood w w'

def DigRel (s : ByteArray) (from_ : Nat) (w : World) (v : Value) (wr : World) : Prop :=
  ∃ (j : Nat), v = .int .i64 j ∧ from_ ≤ j ∧ j ≤ s.size ∧ Stood w wr

set_option maxHeartbeats 6400000 in
set_option maxRecDepth 100000 in
theorem digit_any (s : ByteArray) (h0 : 0 < s.size) (hs : s.size ≤ 1000) (w : World) : Calls Try.prog 20 #[.string s] w (DigPost s w) := by
  have hi0 : (0 : Int) < (s.size : Int) := by omega
  obtain ⟨b, hb⟩ : ∃ b : Int, (s[0].toNat : Int) = b := ⟨_, rfl⟩
  by_cases h45 : b = 45
  · subst h45
    go_enter Try.func20, Try.ntmps20
    go_wp2_with fail
    go_loopw [4] (fun v wr => DigRel s 1 w v wr) (fun v _ => s.size - (intOf v).toNat)
    case atStart => exact ⟨1, rfl, by omega, by omega, .refl _⟩
    case round =>
      obtain ⟨j, rfl, hj1, hjs, hst⟩ := hrel
      cases (show _ = _ from hst)
      clear hst
      by_cases hlt : j < s.size
      · have hi : (j : Int) < (s.size : Int) := by omega
        have hne : ((j : Int) == (s.size : Int)) = false := by simp; omega
        obtain ⟨c, hc⟩ : ∃ c : Int, (s[j].toNat : Int) = c := ⟨_, rfl⟩
        have hi1 : (1 : Int) < (s.size : Int) := by omega
        have hi2 : 1 < s.size := by omega
        have hz : ∀ (x : Int), x = 2 ∨ ¬ x = 2 := fun x => by omega
        rcases hz (j : Int) with hjx | hjx
        · obtain rfl : j = 2 := by omega
          clear hjx hne
          have hne : ((2 : Int) == (s.size : Int)) = false := by simp; omega
          have hi : (2 : Int) < (s.size : Int) := by omega
          by_cases hc1 : 48 ≤ c
          all_goals by_cases hc2 : c ≤ 57
          all_goals
            go_wp2_with fail
            all_goals first
              | (go_ret2
                 exact ⟨2, _, rfl, by omega, by omega, .refl _⟩)
              | exact ⟨⟨3, rfl, by omega, by omega, .refl _⟩, by simp [intOf]; omega⟩
        · have hj2 : ((j : Int) == 2) = false := beq_eq_false_iff_ne.2 hjx
          clear hjx
          by_cases hc1 : 48 ≤ c
          all_goals by_cases hc2 : c ≤ 57
          all_goals
            go_wp2_with fail
            all_goals first
              | (go_ret2
                 exact ⟨j, _, rfl, by omega, by omega, .refl _⟩)
              | exact ⟨⟨j + 1, by go_num, by omega, by omega, .refl _⟩, by simp [intOf]; omega⟩
      · obtain rfl : j = s.size := by omega
        have hi : ¬ (s.size : Int) < (s.size : Int) := by omega
        go_wp2_with fail
        go_ret2
        exact ⟨s.size, _, rfl, by omega, by omega, .refl _⟩
  · have e45 : (b == 45) = false := beq_eq_false_iff_ne.2 h45
    clear h45
    go_enter Try.func20, Try.ntmps20
    go_wp2_with fail
    go_loopw [4] (fun v wr => DigRel s 0 w v wr) (fun v _ => s.size - (intOf v).toNat)
    case atStart => exact ⟨0, rfl, by omega, by omega, .refl _⟩
    case round =>
      obtain ⟨j, rfl, hj1, hjs, hst⟩ := hrel
      cases (show _ = _ from hst)
      clear hst
      by_cases hlt : j < s.size
      · have hi : (j : Int) < (s.size : Int) := by omega
        have hne : ((j : Int) == (s.size : Int)) = false := by simp; omega
        obtain ⟨c, hc⟩ : ∃ c : Int, (s[j].toNat : Int) = c := ⟨_, rfl⟩
        have hz : ∀ (x : Int), x = 1 ∨ ¬ x = 1 := fun x => by omega
        rcases hz (j : Int) with hjx | hjx
        · obtain rfl : j = 1 := by omega
          clear hjx hne
          have hne : ((1 : Int) == (s.size : Int)) = false := by simp; omega
          have hi : (1 : Int) < (s.size : Int) := by omega
          by_cases hc1 : 48 ≤ c
          all_goals by_cases hc2 : c ≤ 57
          all_goals
            go_wp2_with fail
            all_goals first
              | (go_ret2
                 exact ⟨1, _, rfl, by omega, by omega, .refl _⟩)
              | exact ⟨⟨2, rfl, by omega, by omega, .refl _⟩, by simp [intOf]; omega⟩
        · have hj2 : ((j : Int) == 1) = false := beq_eq_false_iff_ne.2 hjx
          clear hjx
          by_cases hj0 : j = 0
          · subst hj0
            by_cases hc1 : 48 ≤ c
            all_goals by_cases hc2 : c ≤ 57
            all_goals
              go_wp2_with fail
              all_goals first
                | (go_ret2
                   exact ⟨0, _, rfl, by omega, by omega, .refl _⟩)
                | exact ⟨⟨1, rfl, by omega, by omega, .refl _⟩, by simp [intOf]; omega⟩
          · have hj3 : ((j : Int) == 0) = false := by simp; omega
            by_cases hc1 : 48 ≤ c
            all_goals by_cases hc2 : c ≤ 57
            all_goals
              go_wp2_with fail
              all_goals first
                | (go_ret2
                   exact ⟨j, _, rfl, by omega, by omega, .refl _⟩)
                | exact ⟨⟨j + 1, by go_num, by omega, by omega, .refl _⟩, by simp [intOf]; omega⟩
      · obtain rfl : j = s.size := by omega
        have hi : ¬ (s.size : Int) < (s.size : Int) := by omega
        go_wp2_with fail
        go_ret2
        exact ⟨s.size, _, rfl, by omega, by omega, .refl _⟩

/-- a word's beginning -/
def WordPost (s : ByteArray) (w : World) (e : Ending) (w' : World) : Prop :=
  ∃ (n : Nat) (k x : Int), e = .returned (.tuple #[.int .i64 n, .int .u8 k, .int .i64 x]) ∧ n ≤ s.size ∧ 0 ≤ k ∧ k < 256 ∧ (k ≠ 0 → x = 0 → 0 < n) ∧ Keeps [] w w'

def WordRel (s : ByteArray) (n : Nat) (w : World) (v : Value) (wr : World) : Prop :=
  ∃ (j : Int), v = .int .i64 j ∧ 0 ≤ j ∧ j ≤ s.size ∧ j ≤ n ∧ Keeps [] w wr

--WORDS
set_option maxHeartbeats 6400000 in
set_option maxRecDepth 100000 in
theorem word_t (s : ByteArray) (h0 : 0 < s.size) (hs : s.size ≤ 1000) (hb : (s[0].toNat : Int) = 116) (w : World) : Calls Try.prog 22 #[.string s] w (WordPost s w) := by
  have hi0 : (0 : Int) < (s.size : Int) := by omega
  go_enter Try.func22, Try.ntmps22
  go_wp2_with fail
  go_loopw [7] (fun v wr => WordRel s 4 w v wr) (fun v _ => 10 - (intOf v).toNat)
  case atStart => exact ⟨0, rfl, by omega, by omega, by omega, Keeps.refl _ _⟩
  case round =>
    obtain ⟨j, rfl, hj0, hjs, hj, hst⟩ := hrel
    have HK := Lib.hid hst
    clear hst
    have hrange : j = (0 : Int) ∨ j = (1 : Int) ∨ j = (2 : Int) ∨ j = (3 : Int) ∨ j = (4 : Int) := by omega
    rcases hrange with rfl | rfl | rfl | rfl | rfl
    · by_cases hlt : (0 : Nat) < s.size
      · have hi : (0 : Int) < (s.size : Int) := by omega
        go_wp2_with fail
        go_quiet (fail)
        go_wp2_with fail
        all_goals first
          | (go_ret3
             exact ⟨0, _, _, rfl, by omega, by omega, by omega, by omega, HK.out.drewN _⟩)
          | exact ⟨⟨1, rfl, by omega, by omega, by omega, HK.out.drewN _⟩, by simp [intOf]⟩
      · have hi : ¬ (0 : Int) < (s.size : Int) := by omega
        first
          | (exfalso; omega)
          | (go_wp2_with fail
             go_ret3
             exact ⟨0, _, _, rfl, by omega, by omega, by omega, by omega, HK.out⟩)
    · by_cases hlt : (1 : Nat) < s.size
      · have hi : (1 : Int) < (s.size : Int) := by omega
        go_wp2_with fail
        go_quiet (fail)
        go_wp2_with fail
        all_goals first
          | (go_ret3
             exact ⟨1, _, _, rfl, by omega, by omega, by omega, by omega, HK.out.drewN _⟩)
          | exact ⟨⟨2, rfl, by omega, by omega, by omega, HK.out.drewN _⟩, by simp [intOf]⟩
      · have hi : ¬ (1 : Int) < (s.size : Int) := by omega
        first
          | (exfalso; omega)
          | (go_wp2_with fail
             go_ret3
             exact ⟨1, _, _, rfl, by omega, by omega, by omega, by omega, HK.out⟩)
    · by_cases hlt : (2 : Nat) < s.size
      · have hi : (2 : Int) < (s.size : Int) := by omega
        go_wp2_with fail
        go_quiet (fail)
        go_wp2_with fail
        all_goals first
          | (go_ret3
             exact ⟨2, _, _, rfl, by omega, by omega, by omega, by omega, HK.out.drewN _⟩)
          | exact ⟨⟨3, rfl, by omega, by omega, by omega, HK.out.drewN _⟩, by simp [intOf]⟩
      · have hi : ¬ (2 : Int) < (s.size : Int) := by omega
        first
          | (exfalso; omega)
          | (go_wp2_with fail
             go_ret3
             exact ⟨2, _, _, rfl, by omega, by omega, by omega, by omega, HK.out⟩)
    · by_cases hlt : (3 : Nat) < s.size
      · have hi : (3 : Int) < (s.size : Int) := by omega
        go_wp2_with fail
        go_quiet (fail)
        go_wp2_with fail
        all_goals first
          | (go_ret3
             exact ⟨3, _, _, rfl, by omega, by omega, by omega, by omega, HK.out.drewN _⟩)
          | exact ⟨⟨4, rfl, by omega, by omega, by omega, HK.out.drewN _⟩, by simp [intOf]⟩
      · have hi : ¬ (3 : Int) < (s.size : Int) := by omega
        first
          | (exfalso; omega)
          | (go_wp2_with fail
             go_ret3
             exact ⟨3, _, _, rfl, by omega, by omega, by omega, by omega, HK.out⟩)
    · by_cases hlt : (4 : Nat) < s.size
      · have hi : (4 : Int) < (s.size : Int) := by omega
        go_wp2_with fail
        go_ret3
        exact ⟨4, _, _, rfl, by omega, by omega, by omega, by omega, HK.out⟩
      · have hi : ¬ (4 : Int) < (s.size : Int) := by omega
        go_wp2_with fail
        go_ret3
        exact ⟨4, _, _, rfl, by omega, by omega, by omega, by omega, HK.out⟩

set_option maxHeartbeats 6400000 in
set_option maxRecDepth 100000 in
theorem word_f (s : ByteArray) (h0 : 0 < s.size) (hs : s.size ≤ 1000) (hb : (s[0].toNat : Int) = 102) (w : World) : Calls Try.prog 22 #[.string s] w (WordPost s w) := by
  have hi0 : (0 : Int) < (s.size : Int) := by omega
  go_enter Try.func22, Try.ntmps22
  go_wp2_with fail
  go_loopw [7] (fun v wr => WordRel s 5 w v wr) (fun v _ => 10 - (intOf v).toNat)
  case atStart => exact ⟨0, rfl, by omega, by omega, by omega, Keeps.refl _ _⟩
  case round =>
    obtain ⟨j, rfl, hj0, hjs, hj, hst⟩ := hrel
    have HK := Lib.hid hst
    clear hst
    have hrange : j = (0 : Int) ∨ j = (1 : Int) ∨ j = (2 : Int) ∨ j = (3 : Int) ∨ j = (4 : Int) ∨ j = (5 : Int) := by omega
    rcases hrange with rfl | rfl | rfl | rfl | rfl | rfl
    · by_cases hlt : (0 : Nat) < s.size
      · have hi : (0 : Int) < (s.size : Int) := by omega
        go_wp2_with fail
        go_quiet (fail)
        go_wp2_with fail
        all_goals first
          | (go_ret3
             exact ⟨0, _, _, rfl, by omega, by omega, by omega, by omega, HK.out.drewN _⟩)
          | exact ⟨⟨1, rfl, by omega, by omega, by omega, HK.out.drewN _⟩, by simp [intOf]⟩
      · have hi : ¬ (0 : Int) < (s.size : Int) := by omega
        first
          | (exfalso; omega)
          | (go_wp2_with fail
             go_ret3
             exact ⟨0, _, _, rfl, by omega, by omega, by omega, by omega, HK.out⟩)
    · by_cases hlt : (1 : Nat) < s.size
      · have hi : (1 : Int) < (s.size : Int) := by omega
        go_wp2_with fail
        go_quiet (fail)
        go_wp2_with fail
        all_goals first
          | (go_ret3
             exact ⟨1, _, _, rfl, by omega, by omega, by omega, by omega, HK.out.drewN _⟩)
          | exact ⟨⟨2, rfl, by omega, by omega, by omega, HK.out.drewN _⟩, by simp [intOf]⟩
      · have hi : ¬ (1 : Int) < (s.size : Int) := by omega
        first
          | (exfalso; omega)
          | (go_wp2_with fail
             go_ret3
             exact ⟨1, _, _, rfl, by omega, by omega, by omega, by omega, HK.out⟩)
    · by_cases hlt : (2 : Nat) < s.size
      · have hi : (2 : Int) < (s.size : Int) := by omega
        go_wp2_with fail
        go_quiet (fail)
        go_wp2_with fail
        all_goals first
          | (go_ret3
             exact ⟨2, _, _, rfl, by omega, by omega, by omega, by omega, HK.out.drewN _⟩)
          | exact ⟨⟨3, rfl, by omega, by omega, by omega, HK.out.drewN _⟩, by simp [intOf]⟩
      · have hi : ¬ (2 : Int) < (s.size : Int) := by omega
        first
          | (exfalso; omega)
          | (go_wp2_with fail
             go_ret3
             exact ⟨2, _, _, rfl, by omega, by omega, by omega, by omega, HK.out⟩)
    · by_cases hlt : (3 : Nat) < s.size
      · have hi : (3 : Int) < (s.size : Int) := by omega
        go_wp2_with fail
        go_quiet (fail)
        go_wp2_with fail
        all_goals first
          | (go_ret3
             exact ⟨3, _, _, rfl, by omega, by omega, by omega, by omega, HK.out.drewN _⟩)
          | exact ⟨⟨4, rfl, by omega, by omega, by omega, HK.out.drewN _⟩, by simp [intOf]⟩
      · have hi : ¬ (3 : Int) < (s.size : Int) := by omega
        first
          | (exfalso; omega)
          | (go_wp2_with fail
             go_ret3
             exact ⟨3, _, _, rfl, by omega, by omega, by omega, by omega, HK.out⟩)
    · by_cases hlt : (4 : Nat) < s.size
      · have hi : (4 : Int) < (s.size : Int) := by omega
        go_wp2_with fail
        go_quiet (fail)
        go_wp2_with fail
        all_goals first
          | (go_ret3
             exact ⟨4, _, _, rfl, by omega, by omega, by omega, by omega, HK.out.drewN _⟩)
          | exact ⟨⟨5, rfl, by omega, by omega, by omega, HK.out.drewN _⟩, by simp [intOf]⟩
      · have hi : ¬ (4 : Int) < (s.size : Int) := by omega
        first
          | (exfalso; omega)
          | (go_wp2_with fail
             go_ret3
             exact ⟨4, _, _, rfl, by omega, by omega, by omega, by omega, HK.out⟩)
    · by_cases hlt : (5 : Nat) < s.size
      · have hi : (5 : Int) < (s.size : Int) := by omega
        go_wp2_with fail
        go_ret3
        exact ⟨5, _, _, rfl, by omega, by omega, by omega, by omega, HK.out⟩
      · have hi : ¬ (5 : Int) < (s.size : Int) := by omega
        go_wp2_with fail
        go_ret3
        exact ⟨5, _, _, rfl, by omega, by omega, by omega, by omega, HK.out⟩

set_option maxHeartbeats 6400000 in
set_option maxRecDepth 100000 in
theorem word_n (s : ByteArray) (h0 : 0 < s.size) (hs : s.size ≤ 1000) (b : Int) (hb : (s[0].toNat : Int) = b) (e1 : (b == 116) = false) (e2 : (b == 102) = false) (w : World) : Calls Try.prog 22 #[.string s] w (WordPost s w) := by
  have hi0 : (0 : Int) < (s.size : Int) := by omega
  go_enter Try.func22, Try.ntmps22
  go_wp2_with fail
  go_loopw [7] (fun v wr => WordRel s 4 w v wr) (fun v _ => 10 - (intOf v).toNat)
  case atStart => exact ⟨0, rfl, by omega, by omega, by omega, Keeps.refl _ _⟩
  case round =>
    obtain ⟨j, rfl, hj0, hjs, hj, hst⟩ := hrel
    have HK := Lib.hid hst
    clear hst
    have hrange : j = (0 : Int) ∨ j = (1 : Int) ∨ j = (2 : Int) ∨ j = (3 : Int) ∨ j = (4 : Int) := by omega
    rcases hrange with rfl | rfl | rfl | rfl | rfl
    · by_cases hlt : (0 : Nat) < s.size
      · have hi : (0 : Int) < (s.size : Int) := by omega
        go_wp2_with fail
        go_quiet (fail)
        go_wp2_with fail
        all_goals first
          | (go_ret3
             exact ⟨0, _, _, rfl, by omega, by omega, by omega, by omega, HK.out.drewN _⟩)
          | exact ⟨⟨1, rfl, by omega, by omega, by omega, HK.out.drewN _⟩, by simp [intOf]⟩
      · have hi : ¬ (0 : Int) < (s.size : Int) := by omega
        first
          | (exfalso; omega)
          | (go_wp2_with fail
             go_ret3
             exact ⟨0, _, _, rfl, by omega, by omega, by omega, by omega, HK.out⟩)
    · by_cases hlt : (1 : Nat) < s.size
      · have hi : (1 : Int) < (s.size : Int) := by omega
        go_wp2_with fail
        go_quiet (fail)
        go_wp2_with fail
        all_goals first
          | (go_ret3
             exact ⟨1, _, _, rfl, by omega, by omega, by omega, by omega, HK.out.drewN _⟩)
          | exact ⟨⟨2, rfl, by omega, by omega, by omega, HK.out.drewN _⟩, by simp [intOf]⟩
      · have hi : ¬ (1 : Int) < (s.size : Int) := by omega
        first
          | (exfalso; omega)
          | (go_wp2_with fail
             go_ret3
             exact ⟨1, _, _, rfl, by omega, by omega, by omega, by omega, HK.out⟩)
    · by_cases hlt : (2 : Nat) < s.size
      · have hi : (2 : Int) < (s.size : Int) := by omega
        go_wp2_with fail
        go_quiet (fail)
        go_wp2_with fail
        all_goals first
          | (go_ret3
             exact ⟨2, _, _, rfl, by omega, by omega, by omega, by omega, HK.out.drewN _⟩)
          | exact ⟨⟨3, rfl, by omega, by omega, by omega, HK.out.drewN _⟩, by simp [intOf]⟩
      · have hi : ¬ (2 : Int) < (s.size : Int) := by omega
        first
          | (exfalso; omega)
          | (go_wp2_with fail
             go_ret3
             exact ⟨2, _, _, rfl, by omega, by omega, by omega, by omega, HK.out⟩)
    · by_cases hlt : (3 : Nat) < s.size
      · have hi : (3 : Int) < (s.size : Int) := by omega
        go_wp2_with fail
        go_quiet (fail)
        go_wp2_with fail
        all_goals first
          | (go_ret3
             exact ⟨3, _, _, rfl, by omega, by omega, by omega, by omega, HK.out.drewN _⟩)
          | exact ⟨⟨4, rfl, by omega, by omega, by omega, HK.out.drewN _⟩, by simp [intOf]⟩
      · have hi : ¬ (3 : Int) < (s.size : Int) := by omega
        first
          | (exfalso; omega)
          | (go_wp2_with fail
             go_ret3
             exact ⟨3, _, _, rfl, by omega, by omega, by omega, by omega, HK.out⟩)
    · by_cases hlt : (4 : Nat) < s.size
      · have hi : (4 : Int) < (s.size : Int) := by omega
        go_wp2_with fail
        go_ret3
        exact ⟨4, _, _, rfl, by omega, by omega, by omega, by omega, HK.out⟩
      · have hi : ¬ (4 : Int) < (s.size : Int) := by omega
        go_wp2_with fail
        go_ret3
        exact ⟨4, _, _, rfl, by omega, by omega, by omega, by omega, HK.out⟩

theorem word_any (s : ByteArray) (h0 : 0 < s.size) (hs : s.size ≤ 1000) (w : World) : Calls Try.prog 22 #[.string s] w (WordPost s w) := by
  by_cases h1 : (s[0].toNat : Int) = 116
  · exact word_t s h0 hs h1 w
  by_cases h2 : (s[0].toNat : Int) = 102
  · exact word_f s h0 hs h2 w
  exact word_n s h0 hs _ rfl (beq_eq_false_iff_ne.2 h1) (beq_eq_false_iff_ne.2 h2) w
end Go.Proofs.Ytmhkgfddlkdmgaa
