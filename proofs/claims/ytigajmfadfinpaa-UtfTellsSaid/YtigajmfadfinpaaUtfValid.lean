/-
  utf.Valid's contract.
-/
import Derived.Test.YtigajmfadfinpaaUtf
namespace Go.Proofs.Ytigajmfadfinpaa
open Go.RowKit Go.Tru

theorem take_snoc {l : List UInt8} {k : Nat} (h : k < l.length) : l.take (k + 1) = l.take k ++ [l[k]] := List.take_succ_eq_append_getElem h

/-- the bytes so far are no fault -/
def ValidRel (s : ByteArray) (w : World) (i : Value) (wr : World) : Prop :=
  ∃ k : Nat, k ≤ s.size ∧ i = .int .i64 k ∧ (Chk.zero.run (s.data.toList.take k)).bad = false ∧ Has wr w.heap.size (Chk.zero.run (s.data.toList.take k)).cells 25 ∧ Keeps [] w wr

set_option maxHeartbeats 400000 in
theorem valid_any (s : ByteArray) (w : World) (hs : s.size ≤ maxLen) :
    Calls Try.prog 11 #[.string s] w fun e w' => e = .returned (.bool (utf8 s.data.toList)) ∧ Keeps [] w w' := by
  unfold maxLen at hs
  go_enter Try.func11, Try.ntmps11
  go_wp2_with fail
  go_loopw [7] (fun i wr => ValidRel s w i wr) (fun i _ => s.size - (intOf i).toNat)
  case atStart => exact ⟨0, Nat.zero_le _, rfl, rfl, Has.new' w _ _ rfl, (Keeps.refl _ _).alloc _⟩
  case round =>
    obtain ⟨k, hk, rfl, hb, hh, hK⟩ := hrel
    by_cases hlt : k < s.size
    · have hsn := take_snoc (l := s.data.toList) (k := k) (by simpa using hlt)
      have HS := Lib.hid hsn
      have HB := Lib.hid hb
      have HK := Lib.hid hK
      clear hsn hb hK
      go_wp2_with fail
      refine (check_step w.heap.size [] [] _ (Chk.zero.run (s.data.toList.take k)) _ wr (by simpa using hh) 0 rfl (by omega) (by have := s[k].toNat_lt; omega) (Chk.fit_run Chk.fit_zero _)).mono ?_
      rintro e w1 ⟨rfl, h1, k1⟩
      have e1 : Chk.zero.run (s.data.toList.take (k + 1)) = (Chk.zero.run (s.data.toList.take k)).step (s[k].toNat : Int) := by
        rw [HS.out, Chk.run_append]; rfl
      rw [← e1] at h1 ⊢
      simp only [List.nil_append, List.append_nil] at h1
      have K1 := Lib.hid k1
      have E1 := Lib.hid e1
      clear k1 e1
      cases hb2 : (Chk.zero.run (s.data.toList.take (k + 1))).bad
      · have HB2 := Lib.hid hb2
        clear hb2
        go_wp2_with fail
        go_roundw
        case rel => exact ⟨k + 1, by omega, by go_num, HB2.out, h1, HK.out.trans' K1.out (by intro i hi; right; simp at hi; omega)⟩
        case measure => simp [intOf]; omega
      · have HB2 := Lib.hid hb2
        clear hb2
        go_wp2_with fail
        go_ret
        refine ⟨ret_bool ?_, HK.out.trans' K1.out (by intro i hi; right; simp at hi; omega)⟩
        have e2 : s.data.toList = s.data.toList.take (k + 1) ++ s.data.toList.drop (k + 1) := (List.take_append_drop _ _).symm
        unfold utf8
        rw [e2, Chk.run_append, Chk.run_bad HB2.out]
        simp [Chk.whole, HB2.out]
    · obtain rfl : k = s.size := by omega
      have e1 : s.data.toList.take s.size = s.data.toList := List.take_of_length_le (by rw [Array.length_toList]; exact Nat.le_refl _)
      rw [e1] at hh hb
      have HB := Lib.hid hb
      have HK := Lib.hid hK
      clear hb hK e1
      go_wp2_with fail
      refine (check_whole w.heap.size [] [] _ (Chk.zero.run s.data.toList) wr (by simpa using hh) 0 rfl).mono ?_
      rintro e w1 ⟨rfl, rfl⟩
      go_wp2_with fail
      go_ret
      exact ⟨rfl, HK.out⟩

theorem put_yes (r : Int) (w : World) (h : 0 ≤ r ∧ r < 55296 ∨ 57343 < r ∧ r ≤ 1114111) :
    Calls Try.prog 9 #[.int .i64 r] w fun e w' => e = .returned (.tuple #[.string (Utf8.encode r), .bool true]) ∧ w = w' := by
  rcases h with ⟨h1, h2⟩ | ⟨h1, h2⟩
  all_goals
    go_enter Try.func9, Try.ntmps9
    go_wp2
    go_ret2
    exact ⟨rfl, rfl⟩

theorem put_no (r : Int) (w : World) (h : r < 0 ∨ 1114111 < r ∨ 55296 ≤ r ∧ r ≤ 57343) :
    Calls Try.prog 9 #[.int .i64 r] w fun e w' => e = .returned (.tuple #[.string ⟨#[]⟩, .bool false]) ∧ w = w' := by
  rcases h with h1 | h1 | ⟨h1, h2⟩
  all_goals
    go_enter Try.func9, Try.ntmps9
    go_wp2
    go_ret2
    exact ⟨rfl, rfl⟩
end Go.Proofs.Ytigajmfadfinpaa
