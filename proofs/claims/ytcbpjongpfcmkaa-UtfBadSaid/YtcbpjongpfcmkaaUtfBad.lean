/-
  UtfBad's walk.
-/
import Derived.Test.YtcbpjongpfcmkaaUtfAlive
import Derived.Test.YtcbpjongpfcmkaaUtfPlain
namespace Go.Proofs.Ytcbpjongpfcmkaa
open Go.RowKit Go.Tru

theorem str1 (W : World) (b : Int) (n : Nat) (hn : n = W.heap.size) :
    (convert 34 9 (.slice (some ⟨n, 0, none⟩) 1 1)).run Try.prog (W.alloc (.cells #[.int .u8 b] 5)) = .ok (.string (strOfNums [b])) (W.alloc (.cells #[.int .u8 b] 5)) :=
  run_bytes_lit 34 9 5 Try.underlying34 Try.underlying5 Try.underlying9 [b] W n hn

/-- so many bytes have been handed over -/
def FeedRel (s : ByteArray) (c : Chk) (b : Nat) (w : World) (i : Value) (wr : World) : Prop :=
  ∃ k : Nat, k ≤ s.size ∧ i = .int .i64 k ∧ Has wr b (c.run (s.data.toList.take k)).cells 29 ∧ Keeps [] w wr

theorem feed_snoc {s : ByteArray} {k : Nat} (h : k < s.size) (c : Chk) : c.run (s.data.toList.take (k + 1)) = (c.run (s.data.toList.take k)).step (s[k].toNat : Int) := by
  rw [take_snoc (l := s.data.toList) (by simpa using h), Chk.run_append]; rfl
theorem feed_all (s : ByteArray) : s.data.toList.take s.size = s.data.toList := List.take_of_length_le (by rw [Array.length_toList]; exact Nat.le_refl _)

theorem utfBad_long (s : ByteArray) (b : Int) (more : ByteArray) (w : World) (hs : s.size ≤ maxLen) (hm : more.size ≤ maxLen) (h : 60 < s.size ∨ s.size ≤ 60 ∧ 60 < more.size) :
    Calls Try.prog 5 #[.string s, .int .u8 b, .string more] w fun e w' => e = .returned (.bool true) ∧ Keeps [] w w' := by
  unfold maxLen at hs hm
  rcases h with h | ⟨h, h'⟩
  all_goals
    go_enter Try.func5, Try.ntmps5
    go_wp2_with fail
    refine (alive_any w).mono ?_
    rintro e w1 ⟨rfl, k1⟩
    have K1 := Lib.hid k1
    clear k1
    go_wp2_with fail
    go_ret
    exact ⟨rfl, K1.out⟩

set_option maxHeartbeats 400000 in
set_option maxRecDepth 100000 in
theorem utfBad_short (s : ByteArray) (b : Int) (more : ByteArray) (w : World) (hs : s.size ≤ 60) (hm : more.size ≤ 60) (hb1 : 0 ≤ b) (hb2 : b ≤ 255) :
    Calls Try.prog 5 #[.string s, .int .u8 b, .string more] w fun e w' => e = .returned (.bool true) ∧ Keeps [] w w' := by
  have hstr := str1
  have hsz1 : (strOfNums [b]).size = 1 := rfl
  go_enter Try.func5, Try.ntmps5
  go_wp2_with fail
  refine (alive_any w).mono ?_
  rintro e w1 ⟨rfl, k1⟩
  have K1 := Lib.hid k1
  have hz := k1.size
  clear k1
  go_wp2_with fail
  go_loopw [8] (fun i wr => FeedRel s Chk.zero w1.heap.size w i wr) (fun i _ => s.size - (intOf i).toNat)
  case atStart => exact ⟨0, Nat.zero_le _, rfl, Has.new' w1 _ _ rfl, K1.out.alloc _⟩
  case round =>
    obtain ⟨k, hk, rfl, hh, hK⟩ := hrel
    by_cases hlt : k < s.size
    · have HK := Lib.hid hK
      have HS := Lib.hid (feed_snoc hlt Chk.zero)
      clear hK
      go_wp2_with fail
      refine (step_lit w1.heap.size _ (Chk.zero.run (s.data.toList.take k)) _ _ _ wr hh ⟨by omega, by have := s[k].toNat_lt; omega⟩ (Chk.fit_run Chk.fit_zero _) HS.out.symm rfl).mono ?_
      rintro e w2 ⟨rfl, h2, k2⟩
      have K2 := Lib.hid k2
      clear k2 hh
      go_wp2_with fail
      go_roundw
      case rel => exact ⟨k + 1, by omega, by go_num, h2, HK.out.one K2.out hz⟩
      case measure => simp [intOf]; omega
    · obtain rfl : k = s.size := by omega
      rw [feed_all] at hh
      have HK := Lib.hid hK
      clear hK
      go_wp2_with fail
      obtain ⟨c', hc⟩ : ∃ c', c' = (Chk.zero.run s.data.toList).step b := ⟨_, rfl⟩
      have hfit : c'.Fit := by rw [hc]; exact Chk.fit_step (Chk.fit_run Chk.fit_zero _) _
      cases hbad : c'.bad
      · have HC := Lib.hid hc
        have HB := Lib.hid hbad
        clear hc hbad
        refine (step_lit w1.heap.size _ (Chk.zero.run s.data.toList) c' _ true wr hh ⟨hb1, hb2⟩ (Chk.fit_run Chk.fit_zero _) HC.out.symm (by rw [HB.out]; rfl)).mono ?_
        rintro e w2 ⟨rfl, h2, k2⟩
        have K2 := Lib.hid k2
        clear k2 hh
        go_wp2_with fail
        refine (bad_lit w1.heap.size _ _ false _ h2 HB.out).mono ?_
        rintro e w3 ⟨rfl, rfl⟩
        go_wp2_with fail
        go_ret
        exact ⟨rfl, HK.out.one K2.out hz⟩
      · have HC := Lib.hid hc
        have HB := Lib.hid hbad
        clear hc hbad
        refine (step_lit w1.heap.size _ (Chk.zero.run s.data.toList) c' _ false wr hh ⟨hb1, hb2⟩ (Chk.fit_run Chk.fit_zero _) HC.out.symm (by rw [HB.out]; rfl)).mono ?_
        rintro e w2 ⟨rfl, h2, k2⟩
        have K2 := Lib.hid (HK.out.one k2 hz)
        clear k2 hh
        go_wp2_with fail
        go_loopw [9] (fun i wr => ∃ k : Nat, k ≤ more.size ∧ i = .int .i64 k ∧ Has wr w1.heap.size c'.cells 29 ∧ Keeps [] w wr) (fun i _ => more.size - (intOf i).toNat)
        case atStart => exact ⟨0, Nat.zero_le _, rfl, h2, K2.out⟩
        case round =>
          obtain ⟨k, hk2, rfl, hh, hK⟩ := hrel
          by_cases hlt : k < more.size
          · have HK2 := Lib.hid hK
            clear hK
            go_wp2_with fail
            refine (step_lit w1.heap.size _ c' c' _ false wr hh ⟨by omega, by have := more[k].toNat_lt; omega⟩ hfit (Chk.step_bad HB.out _) (by rw [HB.out]; rfl)).mono ?_
            rintro e w3 ⟨rfl, h3, k3⟩
            have K3 := Lib.hid k3
            clear k3 hh
            go_wp2_with fail
            go_roundw
            case rel => exact ⟨k + 1, by omega, by go_num, h3, HK2.out.one K3.out hz⟩
            case measure => simp [intOf]; omega
          · have HK2 := Lib.hid hK
            clear hK
            go_wp2_with fail
            refine (bad_lit w1.heap.size _ _ true _ hh HB.out).mono ?_
            rintro e w3 ⟨rfl, rfl⟩
            go_wp2_with fail
            refine (whole_lit w1.heap.size _ _ false _ hh (by simp [Chk.whole, HB.out])).mono ?_
            rintro e w3 ⟨rfl, rfl⟩
            go_wp2_with fail
            have hcat : (s ++ strOfNums [b] ++ more).data.toList = s.data.toList ++ UInt8.ofNat b.toNat :: more.data.toList := by simp [str_data]
            have hb8 : ((UInt8.ofNat b.toNat).toNat : Int) = b := by rw [toNat_ofNat (by omega)]; omega
            have hut : utf8 (s ++ strOfNums [b] ++ more).data.toList = false := by
              rw [hcat]
              unfold utf8
              rw [Chk.run_append, Chk.run_cons, hb8, ← HC.out, Chk.run_bad HB.out]
              simp [Chk.whole, HB.out]
            refine (valid_lit _ false _ (by simp [ByteArray.size_append, hsz1]; unfold maxLen; omega) hut).mono ?_
            rintro e w5 ⟨rfl, k5⟩
            have K5 := Lib.hid k5
            clear k5 hcat hut hb8
            go_wp2_with fail
            go_ret
            exact ⟨rfl, (HK2.out.alloc _).trans K5.out⟩
theorem utfBad_walk (s : ByteArray) (b : Int) (more : ByteArray) (w : World) (hs : s.size ≤ maxLen) (hb : 0 ≤ b ∧ b ≤ 255) (hm : more.size ≤ maxLen) :
    Calls Try.prog 5 #[.string s, .int .u8 b, .string more] w fun e w' => e = .returned (.bool true) ∧ Below w.heap.size w w' := by
  refine Calls.mono (R := fun e w' => e = .returned (.bool true) ∧ Keeps [] w w') ?_ (fun e w' h => ⟨h.1, h.2.all⟩)
  by_cases h : s.size ≤ 60 ∧ more.size ≤ 60
  · exact utfBad_short s b more w h.1 h.2 hb.1 hb.2
  · exact utfBad_long s b more w hs hm (by omega)
end Go.Proofs.Ytcbpjongpfcmkaa
