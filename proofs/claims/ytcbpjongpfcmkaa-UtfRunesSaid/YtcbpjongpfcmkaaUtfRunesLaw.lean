/-
  UtfRunes' walk.
-/
import Derived.Test.YtcbpjongpfcmkaaUtfAlive
import Derived.Test.YtcbpjongpfcmkaaUtfRunes
import Derived.Test.YtcbpjongpfcmkaaSameInts
import Derived.Lib.Strings
import Derived.Lib.IndexBytes
import Derived.Deep.RegionWith
namespace Go.Proofs.Ytcbpjongpfcmkaa
open Go.RowKit Go.Tru

theorem str1 (W : World) (b : Int) (n : Nat) (hn : n = W.heap.size) :
    (convert 34 9 (.slice (some ⟨n, 0, none⟩) 1 1)).run Try.prog (W.alloc (.cells #[.int .u8 b] 5)) = .ok (.string (strOfNums [b])) (W.alloc (.cells #[.int .u8 b] 5)) :=
  run_bytes_lit 34 9 5 Try.underlying34 Try.underlying5 Try.underlying9 [b] W n hn

theorem str1d (W : World) (b : Int) (n : Nat) (hn : n = W.heap.size) :
    (convert 34 9 (.slice (some ⟨n, 0, none⟩) 1 1)).run Try.prog (W.alloc (.cells #[.int .u8 b] 5)).drew = .ok (.string (strOfNums [b])) (W.alloc (.cells #[.int .u8 b] 5)).drew :=
  str1 W.drew b n hn

theorem notRune {r : Int} (h : ¬ isRune r) : r < 0 ∨ 1114111 < r ∨ 55296 ≤ r ∧ r ≤ 57343 := by unfold isRune at h; omega

/-- so many runes are put one behind the other -/
def CatRel (xs : List Int) (n : Nat) (w : World) (v i : Value) (wr : World) : Prop :=
  ∃ (k : Nat) (s : ByteArray), k ≤ n ∧ i = .int .i64 k ∧ v = .string s ∧ s.data.toList = (xs.take k).flatMap enc ∧ s.size ≤ 4 * k ∧ (∀ r ∈ xs.take k, isRune r) ∧ Keeps [] w wr

theorem cat_step {xs : List Int} {k : Nat} (hk : k < xs.length) {s : ByteArray} (h : s.data.toList = (xs.take k).flatMap enc) (hr : isRune xs[k]) : (s ++ Utf8.encode xs[k]).data.toList = (xs.take (k + 1)).flatMap enc := by
  rw [flat_take hk, ← encode_enc hr, ← h]
  simp

theorem encode_size4 {r : Int} (h : isRune r) : (Utf8.encode r).size ≤ 4 := by
  have := (enc_len (r := r)).2
  rw [← encode_enc h, Array.length_toList] at this
  exact this

theorem take_runes {xs : List Int} {k : Nat} (hk : k < xs.length) (h : ∀ r ∈ xs.take k, isRune r) (hr : isRune xs[k]) : ∀ r ∈ xs.take (k + 1), isRune r := by
  intro r h'
  rw [List.take_succ_eq_append_getElem hk, List.mem_append, List.mem_singleton] at h'
  rcases h' with h' | rfl
  · exact h r h'
  · exact hr

theorem empty_of_size {s : ByteArray} (h : s.size = 0) : s = ByteArray.empty := by
  cases s with
  | mk d => have : d = #[] := Array.eq_empty_of_size_eq_zero h; rw [this]; rfl
theorem not_empty {s : ByteArray} (h : ¬ s.size = 0) : s.toList.isEmpty = false ∧ ¬ s.toList = [] := by
  rw [Lib.toList_data]
  have : s.data.toList ≠ [] := fun e => h (by have := congrArg List.length e; simpa using this)
  exact ⟨by simpa using this, this⟩
theorem mod_facts (a : Int) {z : Nat} (h : 0 < z) : -(z : Int) < a.tmod z ∧ a.tmod z < z ∧ ∃ j : Nat, a.tmod z % z = j ∧ j < z := by
  refine ⟨by have := Int.lt_tmod_of_pos a (b := (z : Int)) (by omega); omega, Int.tmod_lt_of_pos a (by omega), (a.tmod z % z).toNat, ?_, ?_⟩
  · have := Int.emod_nonneg (a.tmod z) (b := (z : Int)) (by omega); omega
  · have := Int.emod_nonneg (a.tmod z) (b := (z : Int)) (by omega); have := Int.emod_lt_of_pos (a.tmod z) (b := (z : Int)) (by omega); omega

set_option maxHeartbeats 800000 in
set_option maxRecDepth 100000 in
theorem utfRunes_walk (o : Option Addr) (n c : Nat) (xs : List Int) (at_ by_ : Int) (w : World) (h : IntsIn w o n c xs) (ha : -9223372036854775808 ≤ at_ ∧ at_ ≤ 9223372036854775807) (hb : 0 ≤ by_ ∧ by_ ≤ 255) :
    Calls Try.prog 7 #[.slice o n c, .int .i64 at_, .int .u8 by_] w fun e w' => e = .returned (.bool true) ∧ Below w.heap.size w w' := by
  refine Calls.mono (R := fun e w' => e = .returned (.bool true) ∧ Keeps [] w w') ?_ (fun e w' h => ⟨h.1, h.2.all⟩)
  have m1 : n ≤ 9223372036854775807 := by have := h.room; have := h.most; unfold maxLen at *; omega
  have hl := h.len
  obtain ⟨ha1, ha2⟩ := ha
  obtain ⟨hb1, hb2⟩ := hb
  have H := Lib.hid h
  have L := Lib.hid hl
  clear h hl
  have hstr := str1
  by_cases hn : n ≤ 60
  · go_enter Try.func7, Try.ntmps7
    go_wp2_with fail
    refine (alive_any w).mono ?_
    rintro e w1 ⟨rfl, k1⟩
    have K1 := Lib.hid k1
    clear k1
    go_wp2_with fail
    go_loopw [7, 23] (fun v i wr => CatRel xs n w v i wr) (fun _ i _ => n - (intOf i).toNat)
    case atStart => exact ⟨0, ⟨#[]⟩, Nat.zero_le _, rfl, rfl, by simp, by simp [ByteArray.size], by simp, K1.out⟩
    case round =>
      obtain ⟨k, s, hk, rfl, rfl, hs, hz, hr, hK⟩ := hrel
      by_cases hlt : k < n
      · have hx : k < xs.length := by rw [L.out]; exact hlt
        obtain ⟨b1, f1, rfl, g1⟩ := (H.out.keeps hK).get hlt hx
        have HS := Lib.hid hs
        have HR := Lib.hid hr
        have HK := Lib.hid hK
        clear hs hr hK
        by_cases hrune : isRune xs[k]
        · have h4 := encode_size4 hrune
          have HRU := Lib.hid hrune
          clear hrune
          go_wp2_with fail
          refine (put_yes xs[k] _ HRU.out).mono ?_
          rintro e w2 ⟨rfl, rfl⟩
          go_wp2_with fail
          go_roundw
          case rel => exact ⟨k + 1, _, by omega, by go_num, rfl, cat_step hx HS.out HRU.out, by rw [ByteArray.size_append]; omega, take_runes hx HR.out HRU.out, HK.out⟩
          case measure => simp [intOf]; omega
        · have HRU := Lib.hid hrune
          have hcase := notRune hrune
          clear hrune
          go_wp2_with fail
          refine (put_no xs[k] _ (notRune HRU.out)).mono ?_
          rintro e w2 ⟨rfl, rfl⟩
          rcases hcase with hc | hc | ⟨hc, hc'⟩
          all_goals
            go_wp2_with fail
            go_ret
            exact ⟨rfl, HK.out⟩
      · obtain rfl : k = n := by omega
        have e1 : xs.take k = xs := List.take_of_length_le (by rw [L.out]; omega)
        rw [e1] at hs hr
        have hut : utf8 s.data.toList = true := by rw [hs]; exact utf8_flat hr
        have HS := Lib.hid hs
        have HR := Lib.hid hr
        have HK := Lib.hid hK
        have HU := Lib.hid hut
        clear hs hr hK hut e1
        go_wp2_with fail
        refine (valid_lit s true _ (by unfold maxLen; omega) HU.out).mono ?_
        rintro e w2 ⟨rfl, k2⟩
        have K2 := Lib.hid (HK.out.trans k2)
        clear k2
        go_wp2_with fail
        refine (runes_yes s xs HR.out HS.out _ (by omega)).mono ?_
        rintro e w3 ⟨v, rfl, hown, k3, hnil⟩
        have hfit : ∀ x ∈ xs, -9223372036854775808 ≤ x ∧ x ≤ 9223372036854775807 := fun x hx => by have := HR.out x hx; unfold isRune at this; omega
        obtain ⟨o2, c2, rfl, hin⟩ := intsIn_of_owns hown hfit
        have K3 := Lib.hid (K2.out.trans k3)
        have HI := Lib.hid hin
        clear k3 hown hnil hfit hin
        go_wp2_with fail
        refine (sameInts_any o2 o _ _ _ _ xs xs _ HI.out (H.out.keeps K3.out)).mono ?_
        rintro e w4 ⟨rfl, k4⟩
        have K4 := Lib.hid (K3.out.trans k4)
        have hd : decide (xs = xs) = true := by simp
        rw [hd]
        clear k4 hd
        by_cases hz0 : s.size = 0
        · obtain rfl : s = ByteArray.empty := empty_of_size hz0
          go_wp2_with fail
          go_ret
          exact ⟨rfl, K4.out⟩
        · obtain ⟨hne1, hne2⟩ := not_empty hz0
          obtain ⟨hr1, hr2, j, hj, hjz⟩ := mod_facts at_ (z := s.size) (by omega)
          have hd0 : ((s.size : Int) == 0) = false := beq_eq_false_iff_ne.2 (by omega)
          by_cases hsm : s[j].toNat < 128
          · go_wp2_with fail
            go_ret
            exact ⟨rfl, K4.out⟩
          · have hand : bits .and .u8 by_ 127 = (by_.toNat &&& 127 : Nat) := u8_and by_ 127 hb1 (by omega) (by omega) (by omega)
            have hy : (by_.toNat &&& 127) ≤ 127 := Nat.and_le_right
            generalize (by_.toNat &&& 127) = y at hand hy
            have hsz1 : (strOfNums [(y : Int)]).size = 1 := rfl
            have hex1 : (s.extract 0 j).size = j := by simp [ByteArray.size_extract]; omega
            have hex2 : (s.extract (j + 1) s.size).size = s.size - (j + 1) := by simp [ByteArray.size_extract]
            have hcat : (s.extract 0 j ++ strOfNums [(y : Int)] ++ s.extract (j + 1) s.size).data.toList = s.data.toList.take j ++ UInt8.ofNat y :: s.data.toList.drop (j + 1) := by
              rw [ByteArray.data_append, ByteArray.data_append, Array.toList_append, Array.toList_append, Lib.extract_data, Lib.extract_to_end, str_data]
              simp
            have hut : utf8 (s.extract 0 j ++ strOfNums [(y : Int)] ++ s.extract (j + 1) s.size).data.toList = false := by
              rw [hcat]
              exact utf8_turned HU.out (by simpa using hjz) (by have : (s.data.toList[j]'(by simpa using hjz)).toNat = s[j].toNat := rfl; omega) (by rw [toNat_ofNat (by omega)]; omega)
            have hsz : (s.extract 0 j ++ strOfNums [(y : Int)] ++ s.extract (j + 1) s.size).size ≤ maxLen := by
              rw [ByteArray.size_append, ByteArray.size_append, hex1, hex2, hsz1]; unfold maxLen; omega
            have HUT := Lib.hid hut
            have HSZ := Lib.hid hsz
            have hstrd := str1d
            have hle1 : j ≤ s.size := by omega
            have hw4 : (j : Int) + 1 ≤ s.size := by omega
            have hw2 : 0 ≤ (j : Int) + 1 := by omega
            have hw3 : ((j : Int) + 1).toNat = j + 1 := by omega
            have hw5 : ¬ 9223372036854775807 < j + 1 := by omega
            have hw6 : ¬ 9223372036854775807 < j + 1 + (s.size - (j + 1)) := by omega
            have hw1 : IntKind.i64.wrap ((j : Int) + 1) = (j : Int) + 1 := IntWalk.i64_in _ (by omega)
            clear hcat hut hsz
            go_wp2_with fail
            refine wp_region_any (by kernel_rfl) ?_
            try (change wpAny _ _ _ _ _ _ _ (World.drew _))
            refine wpAny_take (i := 0) (v := ?_) rfl (by kernel_rfl) (by kernel_rfl) (by kernel_rfl) (fun _ _ _ h => h) (Or.inl ⟨by rfl, ?_⟩) ?_
            rotate_left 1
            first | (intro w; go_simp; done) | (intro w; go_simp; with_reducible rfl)
            refine wpAny_take (i := 1) (v := ?_) rfl (by kernel_rfl) (by kernel_rfl) (by kernel_rfl) (fun _ _ _ h => h) (Or.inl ⟨by rfl, ?_⟩) ?_
            rotate_left 1
            first | (intro w; go_simp; done) | (intro w; go_simp; with_reducible rfl)
            refine wpAny_take (i := 3) (v := ?_) rfl (by kernel_rfl) (by kernel_rfl) (by kernel_rfl) (fun _ _ _ h => h) (Or.inl ⟨by rfl, ?_⟩) ?_
            rotate_left 1
            first | (intro w; go_simp; done) | (intro w; go_simp; with_reducible rfl)
            refine wpAny_take (i := 4) (v := ?_) rfl (by kernel_rfl) (by kernel_rfl) (by kernel_rfl) (fun _ _ _ h => h) (Or.inl ⟨by rfl, ?_⟩) ?_
            rotate_left 1
            first | (intro w; go_simp; done) | (intro w; go_simp; with_reducible rfl)
            refine wpAny_take (i := 8) (v := ?_) rfl (by kernel_rfl) (by kernel_rfl) (by kernel_rfl) (fun _ _ _ h => h) (Or.inl ⟨by rfl, ?_⟩) ?_
            rotate_left 1
            first | (intro w; go_simp; done) | (intro w; go_simp; with_reducible rfl)
            refine wpAny_take (i := 9) (v := ?_) rfl (by kernel_rfl) (by kernel_rfl) (by kernel_rfl) (fun _ _ _ h => h) (Or.inl ⟨by rfl, ?_⟩) ?_
            rotate_left 1
            first | (intro w; go_simp; done) | (intro w; go_simp; with_reducible rfl)
            refine wpAny_take (i := 10) (v := ?_) rfl (by kernel_rfl) (by kernel_rfl) (by kernel_rfl) (fun _ _ _ h => h) (Or.inl ⟨by rfl, ?_⟩) ?_
            rotate_left 1
            first | (intro w; go_simp; done) | (intro w; go_simp; with_reducible rfl)
            refine wpAny_take (i := 2) (v := ?_) rfl (by kernel_rfl) (by kernel_rfl) (by kernel_rfl) (fun _ _ _ h => h) (Or.inl ⟨by rfl, ?_⟩) ?_
            rotate_left 1
            first | (intro w; go_simp; done) | (intro w; go_simp; with_reducible rfl)
            refine wpAny_take (i := 11) (v := ?_) rfl (by kernel_rfl) (by kernel_rfl) (by kernel_rfl) (fun _ _ _ h => h) (Or.inl ⟨by rfl, ?_⟩) ?_
            rotate_left 1
            first | (intro w; go_simp; done) | (intro w; go_simp; with_reducible rfl)
            refine wpAny_ready (rs := [5]) (by kernel_rfl) (by simp) ?_
            refine AllReady.cons rfl (fun K hK => ?_) AllReady.nil
            go_simp
            refine hK _ _ ?_
            clear hK K
            refine wpAny_ready (rs := [6]) (by kernel_rfl) (by simp) ?_
            refine AllReady.cons rfl (fun K hK => ?_) AllReady.nil
            go_simp
            refine hK _ _ ?_
            clear hK K
            refine wpAny_ready (rs := [7]) (by kernel_rfl) (by simp) ?_
            refine AllReady.cons rfl (fun K hK => ?_) AllReady.nil
            go_simp
            refine hK _ _ ?_
            clear hK K
            refine wpAny_ready (rs := [12]) (by kernel_rfl) (by simp) ?_
            refine AllReady.cons rfl (fun K hK => ?_) AllReady.nil
            go_simp
            refine hK _ _ ?_
            clear hK K
            refine wpAny_ready (rs := [13]) (by kernel_rfl) (by simp) ?_
            refine AllReady.cons rfl (fun K hK => ?_) AllReady.nil
            go_simp
            refine (valid_lit _ false _ HSZ.out HUT.out).mono ?_
            rintro e w5 ⟨rfl, k5⟩
            have K5 := Lib.hid k5
            clear k5
            try go_simp
            refine hK _ _ ?_
            clear hK K
            refine wpAny_ready (rs := [14]) (by kernel_rfl) (by simp) ?_
            refine AllReady.cons rfl (fun K hK => ?_) AllReady.nil
            go_simp
            refine hK _ _ ?_
            clear hK K
            refine wpAny_ready (rs := [15]) (by kernel_rfl) (by simp) ?_
            refine AllReady.cons rfl (fun K hK => ?_) AllReady.nil
            go_simp
            refine hK _ _ ?_
            clear hK K
            refine wpAny_done (by kernel_rfl) ?_ _
            go_wp2_with fail
            go_ret
            exact ⟨rfl, ((K4.out.alloc _).drew).trans K5.out⟩
  · go_enter Try.func7, Try.ntmps7
    go_wp2_with fail
    refine (alive_any w).mono ?_
    rintro e w1 ⟨rfl, k1⟩
    have K1 := Lib.hid k1
    clear k1
    go_wp2_with fail
    go_ret
    exact ⟨rfl, K1.out⟩
end Go.Proofs.Ytcbpjongpfcmkaa
