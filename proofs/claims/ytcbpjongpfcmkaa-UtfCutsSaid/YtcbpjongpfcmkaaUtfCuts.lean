/-
  UtfCuts' walk.
-/
import Derived.Test.YtcbpjongpfcmkaaUtfAlive
import Derived.Test.YtcbpjongpfcmkaaUtfRunes
import Derived.Test.YtcbpjongpfcmkaaMarks
import Derived.Test.YtcbpjongpfcmkaaArith
import Derived.Lib.Strings
import Derived.Lib.IndexBytes
import Derived.Deep.RegionHeld
namespace Go.Proofs.Ytcbpjongpfcmkaa
open Go.RowKit Go.Tru

/-- so many runes are put one behind the other; their ends are marked -/
def CutRel (xs : List Int) (n b : Nat) (w : World) (v i : Value) (wr : World) : Prop :=
  ∃ (k : Nat) (s : ByteArray) (S : List Int), k ≤ n ∧ i = .int .i64 k ∧ v = .string s ∧ s.data.toList = (xs.take k).flatMap enc ∧ s.size ≤ 4 * k ∧ (∀ r ∈ xs.take k, isRune r) ∧ Marks wr b (k + 1) S ∧ (∀ j : Nat, (j : Int) ∈ S ↔ j ∈ bounds (xs.take k)) ∧ Keeps [] w wr

theorem cut_step {xs : List Int} {k : Nat} (hk : k < xs.length) {s : ByteArray} (h : s.data.toList = (xs.take k).flatMap enc) (hr : isRune xs[k]) : (s ++ Utf8.encode xs[k]).data.toList = (xs.take (k + 1)).flatMap enc := by
  rw [flat_take hk, ← encode_enc hr, ← h]
  simp

theorem encode_size4 {r : Int} (h : isRune r) : (Utf8.encode r).size ≤ 4 := by
  have := (enc_len (r := r)).2
  rw [← encode_enc h, Array.length_toList] at this
  exact this

theorem take_runes {xs : List Int} {k : Nat} (hk : k < xs.length) (h : ∀ r ∈ xs.take k, isRune r) (hr : isRune xs[k]) : ∀ r ∈ xs.take (k + 1), isRune r := by
  intro r h'
  rw [List.take_succ_eq_append_getElem hk, List.mem_append, List.mem_singleton] at h'
  rcases h' with h' | rfl
  · exact h r h'
  · exact hr

theorem notRune {r : Int} (h : ¬ isRune r) : r < 0 ∨ 1114111 < r ∨ 55296 ≤ r ∧ r ≤ 57343 := by unfold isRune at h; omega

theorem marks_step {xs : List Int} {k : Nat} (hk : k < xs.length) {s : ByteArray} (h : s.data.toList = (xs.take k).flatMap enc) (hr : isRune xs[k]) {S : List Int} (hS : ∀ j : Nat, (j : Int) ∈ S ↔ j ∈ bounds (xs.take k)) :
    ∀ j : Nat, (j : Int) ∈ (((s.size : Int) + ((Utf8.encode xs[k]).size : Int)) :: S) ↔ j ∈ bounds (xs.take (k + 1)) := by
  intro j
  have e1 : s.size + (Utf8.encode xs[k]).size = ((xs.take k).flatMap enc).length + (enc xs[k]).length := by
    rw [← h, ← encode_enc hr, Array.length_toList, Array.length_toList]; rfl
  rw [List.take_succ_eq_append_getElem hk, bounds_snoc, List.mem_cons, hS j]
  constructor
  · rintro (h | h)
    · exact Or.inr (by omega)
    · exact Or.inl h
  · rintro (h | h)
    · exact Or.inr h
    · exact Or.inl (by omega)

theorem cut_at (a : Int) (z : Nat) (hz : z ≤ 1000) : ∃ j : Nat, (wrap64 (wrap64 (a.tmod (↑z + 1) + ↑z) + 1)).tmod (↑z + 1) = (j : Int) ∧ j ≤ z := by
  have h1 := Int.lt_tmod_of_pos a (b := (z : Int) + 1) (by omega)
  have h2 := Int.tmod_lt_of_pos a (b := (z : Int) + 1) (by omega)
  generalize a.tmod ((z : Int) + 1) = m at h1 h2
  rw [IntWalk.wrap64_in (m + z) (by omega), IntWalk.wrap64_in _ (by omega), Int.tmod_eq_emod_of_nonneg (by omega)]
  have h3 := Int.emod_nonneg (m + z + 1) (b := (z : Int) + 1) (by omega)
  have h4 := Int.emod_lt_of_pos (m + z + 1) (b := (z : Int) + 1) (by omega)
  exact ⟨((m + z + 1) % ((z : Int) + 1)).toNat, by omega, by omega⟩

/-- so many bytes have been handed over -/
def FeedRel2 (s : ByteArray) (j : Nat) (b : Nat) (w : World) (i : Value) (wr : World) : Prop :=
  ∃ k : Nat, k ≤ j ∧ i = .int .i64 k ∧ Has wr b (Chk.zero.run (s.data.toList.take k)).cells 29 ∧ Keeps [] w wr

theorem feed_snoc {s : ByteArray} {k : Nat} (h : k < s.size) (c : Chk) : c.run (s.data.toList.take (k + 1)) = (c.run (s.data.toList.take k)).step (s[k].toNat : Int) := by
  rw [take_snoc (l := s.data.toList) (by simpa using h), Chk.run_append]; rfl

set_option maxHeartbeats 4000000 in
set_option maxRecDepth 100000 in
theorem utfCuts_walk (o : Option Addr) (n c : Nat) (xs : List Int) (at_ : Int) (w : World) (h : IntsIn w o n c xs) (ha : -9223372036854775808 ≤ at_ ∧ at_ ≤ 9223372036854775807) :
    Calls Try.prog 3 #[.slice o n c, .int .i64 at_] w fun e w' => e = .returned (.bool true) ∧ Below w.heap.size w w' := by
  refine Calls.mono (R := fun e w' => e = .returned (.bool true) ∧ Keeps [] w w') ?_ (fun e w' h => ⟨h.1, h.2.all⟩)
  have m1 : n ≤ 9223372036854775807 := by have := h.room; have := h.most; unfold maxLen at *; omega
  have hl := h.len
  obtain ⟨ha1, ha2⟩ := ha
  have H := Lib.hid h
  have L := Lib.hid hl
  clear h hl
  by_cases hn : 40 < n
  · go_enter Try.func3, Try.ntmps3
    go_wp2_with fail
    refine (alive_any w).mono ?_
    rintro e w1 ⟨rfl, k1⟩
    have K1 := Lib.hid k1
    clear k1
    go_wp2_with fail
    go_ret
    exact ⟨rfl, K1.out⟩
  have hn2 : n ≤ 40 := by omega
  clear hn
  have hmm := @run_makeMap Try.prog
  go_enter Try.func3, Try.ntmps3
  go_wp2_with fail
  refine (alive_any w).mono ?_
  rintro e w1 ⟨rfl, k1⟩
  have K1 := Lib.hid k1
  have hz1 := k1.size
  clear k1
  obtain ⟨w2, hrun2, hm2, hk2⟩ := store_marks (Marks.made w1) (by omega) (key := 0) (by omega)
  have M2 := Lib.hid hm2
  have K2 := Lib.hid ((K1.out.alloc _).trans' hk2 (by intro i hi; right; simp at hi; omega))
  clear hm2 hk2
  go_wp2_with fail
  clear hrun2
  go_loopw [5, 25] (fun v i wr => CutRel xs n w1.heap.size w v i wr) (fun _ i _ => n - (intOf i).toNat)
  case atStart => exact ⟨0, ⟨#[]⟩, _, Nat.zero_le _, rfl, rfl, by simp, by simp [ByteArray.size], by simp, M2.out, by intro j; simp [bounds]; try omega, K2.out⟩
  case round =>
    obtain ⟨k, s, S, hk, rfl, rfl, hs, hz, hr, hM, hS, hK⟩ := hrel
    have HM := Lib.hid hM
    have HSS := Lib.hid hS
    clear hM hS
    by_cases hlt : k < n
    · have hx : k < xs.length := by rw [L.out]; exact hlt
      obtain ⟨b1, f1, rfl, g1⟩ := (H.out.keeps hK).get hlt hx
      have HS := Lib.hid hs
      have HR := Lib.hid hr
      have HK := Lib.hid hK
      clear hs hr hK
      by_cases hrune : isRune xs[k]
      · have h4 := encode_size4 hrune
        have HRU := Lib.hid hrune
        clear hrune
        go_wp2_with fail
        refine (put_yes xs[k] _ HRU.out).mono ?_
        rintro e w3 ⟨rfl, rfl⟩
        have hzz : (s ++ Utf8.encode xs[k]).size = s.size + (Utf8.encode xs[k]).size := ByteArray.size_append
        obtain ⟨w4, hrun4, hm4, hk4⟩ := store_marks HM.out (by omega) (key := (s.size : Int) + ((Utf8.encode xs[k]).size : Int)) (by omega)
        have M4 := Lib.hid hm4
        have K4 := Lib.hid (HK.out.trans' hk4 (by intro i hi; right; simp at hi; omega))
        have HZZ := Lib.hid hzz
        clear hm4 hk4 hzz
        go_wp2_with fail
        go_roundw
        case rel => exact ⟨k + 1, _, _, by omega, by go_num, rfl, cut_step hx HS.out HRU.out, by rw [HZZ.out]; omega, take_runes hx HR.out HRU.out, M4.out, marks_step hx HS.out HRU.out HSS.out, K4.out⟩
        case measure => simp [intOf]; omega
      · have HRU := Lib.hid hrune
        clear hrune
        go_wp2_with fail
        refine (put_no xs[k] _ (notRune HRU.out)).mono ?_
        rintro e w3 ⟨rfl, rfl⟩
        go_wp2_with fail
        go_ret
        exact ⟨rfl, HK.out⟩
    · obtain rfl : k = n := by omega
      have e1 : xs.take k = xs := List.take_of_length_le (by rw [L.out]; omega)
      rw [e1] at hs hr
      have HS := Lib.hid hs
      have HR := Lib.hid hr
      have HK := Lib.hid hK
      have E1 := Lib.hid e1
      have hzk : w1.heap.size < wr.heap.size := HM.out.lt
      clear hs hr hK e1
      go_wp2_with fail
      obtain ⟨j, hj, hjz⟩ := cut_at at_ s.size (by omega)
      simp only [hj]
      clear hj
      obtain ⟨wo, rfl⟩ : ∃ wo : World, wo = wr := ⟨_, rfl⟩
      go_loopw [12] (fun i wr => FeedRel2 s j wo.heap.size wo i wr) (fun i _ => j - (intOf i).toNat)
      case atStart => exact ⟨0, Nat.zero_le _, rfl, Has.new' wo _ _ rfl, (Keeps.refl _ _).alloc _⟩
      case round =>
        obtain ⟨k2, hk2, rfl, hh, hK2⟩ := hrel
        have HK2 := Lib.hid hK2
        clear hK2
        have hxs : ∀ k3, k3 ≤ s.size → (Chk.zero.run (s.data.toList.take k3)).bad = false := fun k3 hk3 => by
          rw [HS.out]
          exact (cut_flat HR.out Chk.clean_zero Chk.clean_zero k3 (by rw [← HS.out, Array.length_toList]; exact hk3)).1
        have HX := Lib.hid hxs
        clear hxs
        by_cases hlt2 : k2 < j
        · have hlt3 : k2 < s.size := by omega
          have HS2 := Lib.hid (feed_snoc hlt3 Chk.zero)
          have hlt4 : (k2 : Int) < (s.size : Int) := by omega
          go_wp2_with fail
          refine (step_lit wo.heap.size _ (Chk.zero.run (s.data.toList.take k2)) _ _ true wr hh ⟨by omega, by have := s[k2].toNat_lt; omega⟩ (Chk.fit_run Chk.fit_zero _) HS2.out.symm (by rw [HX.out _ (by omega)]; rfl)).mono ?_
          rintro e w3 ⟨rfl, h3, k3⟩
          have K3 := Lib.hid k3
          clear k3 hh
          go_wp2_with fail
          go_roundw
          case rel => exact ⟨k2 + 1, by omega, by go_num, h3, HK2.out.one K3.out (Nat.le_refl _)⟩
          case measure => simp [intOf]; omega
        · obtain rfl : k2 = j := by omega
          have hks : k2 ≤ (xs.flatMap enc).length := by rw [← HS.out, Array.length_toList]; exact hjz
          obtain ⟨q1, q2, q3⟩ := cut_flat HR.out Chk.clean_zero Chk.clean_zero k2 hks
          rw [← HS.out] at q1 q2 q3
          obtain ⟨m, hm⟩ : ∃ m, m = decide (k2 ∈ bounds xs) := ⟨_, rfl⟩
          have hex1 : (s.extract 0 k2).data.toList = s.data.toList.take k2 := by rw [Lib.extract_data]; simp
          have hex2 : (s.extract k2 s.size).data.toList = s.data.toList.drop k2 := by rw [Lib.extract_to_end]
          have hwh : (Chk.zero.run (s.data.toList.take k2)).whole = m := by
            rw [hm, Chk.whole, q1, Bool.eq_iff_iff]; simp [q2]
          have hu1 : utf8 (s.extract 0 k2).data.toList = m := by rw [hex1]; exact hwh
          have hu2 : utf8 (s.extract k2 s.size).data.toList = m := by
            rw [hex2, hm, Bool.eq_iff_iff]; unfold utf8; rw [Chk.clean_whole, q3]; simp
          have hsz1 : (s.extract 0 k2).size ≤ maxLen := by simp [ByteArray.size_extract]; unfold maxLen; omega
          have hsz2 : (s.extract k2 s.size).size ≤ maxLen := by simp [ByteArray.size_extract]; unfold maxLen; omega
          have hmem : decide ((k2 : Int) ∈ S) = m := by
            have h1 := HSS.out k2
            rw [E1.out] at h1
            rw [hm, Bool.eq_iff_iff]; simp [h1]
          have hlk : ∀ w', Keeps [] wr w' → (Instr.lookup 24 (.map (some w1.heap.size)) (.int .i64 (k2 : Int)) false).run Try.prog w' = .ok (.bool m) w' := fun w' hw' => by
            have := lookup_marks ((HM.out.keeps HK2.out).keeps hw') (key := (k2 : Int)) (by omega)
            rw [hmem] at this
            exact this
          have HB := Lib.hid q1
          have HWH := Lib.hid hwh
          have HU1 := Lib.hid hu1
          have HU2 := Lib.hid hu2
          have HSZ1 := Lib.hid hsz1
          have HSZ2 := Lib.hid hsz2
          have HLK := Lib.hid hlk
          have hks2 : (k2 : Int) ≤ (s.size : Int) := by omega
          have hks3 : (0 : Int) ≤ (k2 : Int) := by omega
          clear hks q1 q2 q3 hm hex1 hex2 hwh hu1 hu2 hsz1 hsz2 hmem hlk
          go_wp2_with fail
          refine wp_region_held_drew (S := fun w' => Keeps [] wr w') (by kernel_rfl) ((Keeps.refl [] _).drew) (fun hHeld => ?_)
          have HH := Lib.hid hHeld
          clear hHeld
          refine wpAnyH_take (i := 0) (v := ?_) rfl (by kernel_rfl) (by kernel_rfl) (by kernel_rfl) (fun _ _ _ h => h) (Or.inl ⟨by rfl, ?_⟩) HH.out ?_
          rotate_left 1
          first | (intro w hSw; clear hSw; go_simp; done) | (intro w hSw; clear hSw; go_simp; with_reducible rfl)
          try simp only [List.getElem_toArray, List.getElem_cons_zero, Act.put, List.setIfInBounds_toArray, List.set_cons_zero, List.set_cons_succ]
          refine wpAnyH_ready (rs := [1]) (by kernel_rfl) (by simp) ?_
          refine AllReadyH.cons rfl (fun K hK => ?_) AllReadyH.nil
          go_simp
          refine (bad_lit wo.heap.size _ _ false _ (hh.keeps HH.out (by simp)) HB.out).mono ?_
          rintro e w5 ⟨rfl, rfl⟩
          try go_simp
          refine hK.out _ _ (HH.out.trans (Keeps.refl _ _)) (fun hHeld => ?_)
          clear hK K HH
          have HH := Lib.hid hHeld
          clear hHeld
          refine wpAnyH_take (i := 2) (v := ?_) rfl (by kernel_rfl) (by kernel_rfl) (by kernel_rfl) (fun _ _ _ h => h) (Or.inl ⟨by rfl, ?_⟩) HH.out ?_
          rotate_left 1
          first | (intro w hSw; clear hSw; go_simp; done) | (intro w hSw; clear hSw; go_simp; with_reducible rfl)
          try simp only [List.getElem_toArray, List.getElem_cons_zero, List.getElem_cons_succ, Act.put, List.setIfInBounds_toArray, List.set_cons_zero, List.set_cons_succ]
          refine wpAnyH_take (i := 3) (v := ?_) rfl (by kernel_rfl) (by kernel_rfl) (by kernel_rfl) (fun _ _ _ h => h) (Or.inl ⟨by rfl, ?_⟩) HH.out ?_
          rotate_left 1
          first | (intro w hSw; clear hSw; go_simp; done) | (intro w hSw; clear hSw; go_simp; with_reducible rfl)
          try simp only [List.getElem_toArray, List.getElem_cons_zero, List.getElem_cons_succ, Act.put, List.setIfInBounds_toArray, List.set_cons_zero, List.set_cons_succ]
          refine wpAnyH_take (i := 4) (v := ?_) rfl (by kernel_rfl) (by kernel_rfl) (by kernel_rfl) (fun _ _ _ h => h) (Or.inl ⟨by rfl, ?_⟩) HH.out ?_
          rotate_left 1
          first | (intro w hSw; clear hSw; go_simp; done) | (intro w hSw; clear hSw; go_simp; with_reducible rfl)
          try simp only [List.getElem_toArray, List.getElem_cons_zero, List.getElem_cons_succ, Act.put, List.setIfInBounds_toArray, List.set_cons_zero, List.set_cons_succ]
          refine wpAnyH_take (i := 6) (v := ?_) rfl (by kernel_rfl) (by kernel_rfl) (by kernel_rfl) (fun _ _ _ h => h) (Or.inl ⟨by rfl, ?_⟩) HH.out ?_
          rotate_left 1
          first | (intro w hSw; clear hSw; go_simp; done) | (intro w hSw; clear hSw; go_simp; with_reducible rfl)
          try simp only [List.getElem_toArray, List.getElem_cons_zero, List.getElem_cons_succ, Act.put, List.setIfInBounds_toArray, List.set_cons_zero, List.set_cons_succ]
          refine wpAnyH_take (i := 7) (v := ?_) rfl (by kernel_rfl) (by kernel_rfl) (by kernel_rfl) (fun _ _ _ h => h) (Or.inl ⟨by rfl, ?_⟩) HH.out ?_
          rotate_left 1
          first | (intro w hSw; clear hSw; go_simp; done) | (intro w hSw; clear hSw; go_simp; with_reducible rfl)
          try simp only [List.getElem_toArray, List.getElem_cons_zero, List.getElem_cons_succ, Act.put, List.setIfInBounds_toArray, List.set_cons_zero, List.set_cons_succ]
          refine wpAnyH_take (i := 8) (v := ?_) rfl (by kernel_rfl) (by kernel_rfl) (by kernel_rfl) (fun _ _ _ h => h) (Or.inl ⟨by rfl, ?_⟩) HH.out ?_
          rotate_left 1
          first | (intro w hSw; have hSf := HLK.out w hSw; clear hSw; go_simp; done) | (intro w hSw; have hSf := HLK.out w hSw; clear hSw; go_simp; with_reducible rfl)
          try simp only [List.getElem_toArray, List.getElem_cons_zero, List.getElem_cons_succ, Act.put, List.setIfInBounds_toArray, List.set_cons_zero, List.set_cons_succ]
          refine wpAnyH_ready (rs := [5]) (by kernel_rfl) (by simp) ?_
          refine AllReadyH.cons rfl (fun K hK => ?_) AllReadyH.nil
          go_simp
          refine (whole_lit wo.heap.size _ _ m _ (hh.keeps HH.out (by simp)) HWH.out).mono ?_
          rintro e w5 ⟨rfl, rfl⟩
          try go_simp
          refine hK.out _ _ (HH.out.trans (Keeps.refl _ _)) (fun hHeld => ?_)
          clear hK K HH
          have HH := Lib.hid hHeld
          clear hHeld
          refine wpAnyH_take (i := 9) (v := ?_) rfl (by kernel_rfl) (by kernel_rfl) (by kernel_rfl) (fun _ _ _ h => h) (Or.inl ⟨by rfl, ?_⟩) HH.out ?_
          rotate_left 1
          first | (intro w hSw; clear hSw; go_simp; done) | (intro w hSw; clear hSw; go_simp; with_reducible rfl)
          try simp only [List.getElem_toArray, List.getElem_cons_zero, List.getElem_cons_succ, Act.put, List.setIfInBounds_toArray, List.set_cons_zero, List.set_cons_succ]
          refine wpAnyH_take (i := 10) (v := ?_) rfl (by kernel_rfl) (by kernel_rfl) (by kernel_rfl) (fun _ _ _ h => h) (Or.inl ⟨by rfl, ?_⟩) HH.out ?_
          rotate_left 1
          first | (intro w hSw; clear hSw; go_simp; done) | (intro w hSw; clear hSw; go_simp; with_reducible rfl)
          try simp only [List.getElem_toArray, List.getElem_cons_zero, List.getElem_cons_succ, Act.put, List.setIfInBounds_toArray, List.set_cons_zero, List.set_cons_succ]
          refine wpAnyH_take (i := 11) (v := ?_) rfl (by kernel_rfl) (by kernel_rfl) (by kernel_rfl) (fun _ _ _ h => h) (Or.inl ⟨by rfl, ?_⟩) HH.out ?_
          rotate_left 1
          first | (intro w hSw; clear hSw; go_simp; done) | (intro w hSw; clear hSw; go_simp; with_reducible rfl)
          try simp only [List.getElem_toArray, List.getElem_cons_zero, List.getElem_cons_succ, Act.put, List.setIfInBounds_toArray, List.set_cons_zero, List.set_cons_succ]
          refine wpAnyH_take (i := 12) (v := ?_) rfl (by kernel_rfl) (by kernel_rfl) (by kernel_rfl) (fun _ _ _ h => h) (Or.inl ⟨by rfl, ?_⟩) HH.out ?_
          rotate_left 1
          first | (intro w hSw; clear hSw; go_simp; done) | (intro w hSw; clear hSw; go_simp; with_reducible rfl)
          try simp only [List.getElem_toArray, List.getElem_cons_zero, List.getElem_cons_succ, Act.put, List.setIfInBounds_toArray, List.set_cons_zero, List.set_cons_succ]
          refine wpAnyH_take (i := 13) (v := ?_) rfl (by kernel_rfl) (by kernel_rfl) (by kernel_rfl) (fun _ _ _ h => h) (Or.inl ⟨by rfl, ?_⟩) HH.out ?_
          rotate_left 1
          first | (intro w hSw; clear hSw; go_simp; done) | (intro w hSw; clear hSw; go_simp; with_reducible rfl)
          try simp only [List.getElem_toArray, List.getElem_cons_zero, List.getElem_cons_succ, Act.put, List.setIfInBounds_toArray, List.set_cons_zero, List.set_cons_succ]
          refine wpAnyH_take (i := 14) (v := ?_) rfl (by kernel_rfl) (by kernel_rfl) (by kernel_rfl) (fun _ _ _ h => h) (Or.inl ⟨by rfl, ?_⟩) HH.out ?_
          rotate_left 1
          first | (intro w hSw; clear hSw; go_simp; done) | (intro w hSw; clear hSw; go_simp; with_reducible rfl)
          try simp only [List.getElem_toArray, List.getElem_cons_zero, List.getElem_cons_succ, Act.put, List.setIfInBounds_toArray, List.set_cons_zero, List.set_cons_succ]
          refine wpAnyH_take (i := 16) (v := ?_) rfl (by kernel_rfl) (by kernel_rfl) (by kernel_rfl) (fun _ _ _ h => h) (Or.inl ⟨by rfl, ?_⟩) HH.out ?_
          rotate_left 1
          first | (intro w hSw; clear hSw; go_simp; done) | (intro w hSw; clear hSw; go_simp; with_reducible rfl)
          try simp only [List.getElem_toArray, List.getElem_cons_zero, List.getElem_cons_succ, Act.put, List.setIfInBounds_toArray, List.set_cons_zero, List.set_cons_succ]
          refine wpAnyH_take (i := 17) (v := ?_) rfl (by kernel_rfl) (by kernel_rfl) (by kernel_rfl) (fun _ _ _ h => h) (Or.inl ⟨by rfl, ?_⟩) HH.out ?_
          rotate_left 1
          first | (intro w hSw; clear hSw; go_simp; done) | (intro w hSw; clear hSw; go_simp; with_reducible rfl)
          try simp only [List.getElem_toArray, List.getElem_cons_zero, List.getElem_cons_succ, Act.put, List.setIfInBounds_toArray, List.set_cons_zero, List.set_cons_succ]
          refine wpAnyH_take (i := 18) (v := ?_) rfl (by kernel_rfl) (by kernel_rfl) (by kernel_rfl) (fun _ _ _ h => h) (Or.inl ⟨by rfl, ?_⟩) HH.out ?_
          rotate_left 1
          first | (intro w hSw; have hSf := HLK.out w hSw; clear hSw; go_simp; done) | (intro w hSw; have hSf := HLK.out w hSw; clear hSw; go_simp; with_reducible rfl)
          try simp only [List.getElem_toArray, List.getElem_cons_zero, List.getElem_cons_succ, Act.put, List.setIfInBounds_toArray, List.set_cons_zero, List.set_cons_succ]
          refine wpAnyH_ready (rs := [15]) (by kernel_rfl) (by simp) ?_
          refine AllReadyH.cons rfl (fun K hK => ?_) AllReadyH.nil
          go_simp
          refine (valid_lit _ m _ HSZ1.out HU1.out).mono ?_
          rintro e w5 ⟨rfl, k5⟩
          try go_simp
          refine hK.out _ _ (HH.out.trans k5) (fun hHeld => ?_)
          clear hK K HH
          have HH := Lib.hid hHeld
          clear hHeld
          refine wpAnyH_take (i := 19) (v := ?_) rfl (by kernel_rfl) (by kernel_rfl) (by kernel_rfl) (fun _ _ _ h => h) (Or.inl ⟨by rfl, ?_⟩) HH.out ?_
          rotate_left 1
          first | (intro w hSw; clear hSw; go_simp; done) | (intro w hSw; clear hSw; go_simp; with_reducible rfl)
          try simp only [List.getElem_toArray, List.getElem_cons_zero, List.getElem_cons_succ, Act.put, List.setIfInBounds_toArray, List.set_cons_zero, List.set_cons_succ]
          refine wpAnyH_take (i := 20) (v := ?_) rfl (by kernel_rfl) (by kernel_rfl) (by kernel_rfl) (fun _ _ _ h => h) (Or.inl ⟨by rfl, ?_⟩) HH.out ?_
          rotate_left 1
          first | (intro w hSw; clear hSw; go_simp; done) | (intro w hSw; clear hSw; go_simp; with_reducible rfl)
          try simp only [List.getElem_toArray, List.getElem_cons_zero, List.getElem_cons_succ, Act.put, List.setIfInBounds_toArray, List.set_cons_zero, List.set_cons_succ]
          refine wpAnyH_take (i := 21) (v := ?_) rfl (by kernel_rfl) (by kernel_rfl) (by kernel_rfl) (fun _ _ _ h => h) (Or.inl ⟨by rfl, ?_⟩) HH.out ?_
          rotate_left 1
          first | (intro w hSw; clear hSw; go_simp; done) | (intro w hSw; clear hSw; go_simp; with_reducible rfl)
          try simp only [List.getElem_toArray, List.getElem_cons_zero, List.getElem_cons_succ, Act.put, List.setIfInBounds_toArray, List.set_cons_zero, List.set_cons_succ]
          refine wpAnyH_take (i := 22) (v := ?_) rfl (by kernel_rfl) (by kernel_rfl) (by kernel_rfl) (fun _ _ _ h => h) (Or.inl ⟨by rfl, ?_⟩) HH.out ?_
          rotate_left 1
          first | (intro w hSw; clear hSw; go_simp; done) | (intro w hSw; clear hSw; go_simp; with_reducible rfl)
          try simp only [List.getElem_toArray, List.getElem_cons_zero, List.getElem_cons_succ, Act.put, List.setIfInBounds_toArray, List.set_cons_zero, List.set_cons_succ]
          refine wpAnyH_take (i := 23) (v := ?_) rfl (by kernel_rfl) (by kernel_rfl) (by kernel_rfl) (fun _ _ _ h => h) (Or.inl ⟨by rfl, ?_⟩) HH.out ?_
          rotate_left 1
          first | (intro w hSw; clear hSw; go_simp; done) | (intro w hSw; clear hSw; go_simp; with_reducible rfl)
          try simp only [List.getElem_toArray, List.getElem_cons_zero, List.getElem_cons_succ, Act.put, List.setIfInBounds_toArray, List.set_cons_zero, List.set_cons_succ]
          refine wpAnyH_take (i := 24) (v := ?_) rfl (by kernel_rfl) (by kernel_rfl) (by kernel_rfl) (fun _ _ _ h => h) (Or.inl ⟨by rfl, ?_⟩) HH.out ?_
          rotate_left 1
          first | (intro w hSw; clear hSw; go_simp; done) | (intro w hSw; clear hSw; go_simp; with_reducible rfl)
          try simp only [List.getElem_toArray, List.getElem_cons_zero, List.getElem_cons_succ, Act.put, List.setIfInBounds_toArray, List.set_cons_zero, List.set_cons_succ]
          refine wpAnyH_take (i := 26) (v := ?_) rfl (by kernel_rfl) (by kernel_rfl) (by kernel_rfl) (fun _ _ _ h => h) (Or.inl ⟨by rfl, ?_⟩) HH.out ?_
          rotate_left 1
          first | (intro w hSw; clear hSw; go_simp; done) | (intro w hSw; clear hSw; go_simp; with_reducible rfl)
          try simp only [List.getElem_toArray, List.getElem_cons_zero, List.getElem_cons_succ, Act.put, List.setIfInBounds_toArray, List.set_cons_zero, List.set_cons_succ]
          refine wpAnyH_take (i := 27) (v := ?_) rfl (by kernel_rfl) (by kernel_rfl) (by kernel_rfl) (fun _ _ _ h => h) (Or.inl ⟨by rfl, ?_⟩) HH.out ?_
          rotate_left 1
          first | (intro w hSw; clear hSw; go_simp; done) | (intro w hSw; clear hSw; go_simp; with_reducible rfl)
          try simp only [List.getElem_toArray, List.getElem_cons_zero, List.getElem_cons_succ, Act.put, List.setIfInBounds_toArray, List.set_cons_zero, List.set_cons_succ]
          refine wpAnyH_take (i := 28) (v := ?_) rfl (by kernel_rfl) (by kernel_rfl) (by kernel_rfl) (fun _ _ _ h => h) (Or.inl ⟨by rfl, ?_⟩) HH.out ?_
          rotate_left 1
          first | (intro w hSw; have hSf := HLK.out w hSw; clear hSw; go_simp; done) | (intro w hSw; have hSf := HLK.out w hSw; clear hSw; go_simp; with_reducible rfl)
          try simp only [List.getElem_toArray, List.getElem_cons_zero, List.getElem_cons_succ, Act.put, List.setIfInBounds_toArray, List.set_cons_zero, List.set_cons_succ]
          refine wpAnyH_ready (rs := [25]) (by kernel_rfl) (by simp) ?_
          refine AllReadyH.cons rfl (fun K hK => ?_) AllReadyH.nil
          go_simp
          refine (valid_lit _ m _ HSZ2.out HU2.out).mono ?_
          rintro e w6 ⟨rfl, k6⟩
          try go_simp
          refine hK.out _ _ (HH.out.trans k6) (fun hHeld => ?_)
          clear hK K HH
          have HH := Lib.hid hHeld
          clear hHeld
          refine wpAnyH_take (i := 29) (v := ?_) rfl (by kernel_rfl) (by kernel_rfl) (by kernel_rfl) (fun _ _ _ h => h) (Or.inl ⟨by rfl, ?_⟩) HH.out ?_
          rotate_left 1
          first | (intro w hSw; clear hSw; go_simp; done) | (intro w hSw; clear hSw; go_simp; with_reducible rfl)
          try simp only [List.getElem_toArray, List.getElem_cons_zero, List.getElem_cons_succ, Act.put, List.setIfInBounds_toArray, List.set_cons_zero, List.set_cons_succ]
          refine wpAnyH_take (i := 30) (v := ?_) rfl (by kernel_rfl) (by kernel_rfl) (by kernel_rfl) (fun _ _ _ h => h) (Or.inl ⟨by rfl, ?_⟩) HH.out ?_
          rotate_left 1
          first | (intro w hSw; clear hSw; go_simp; done) | (intro w hSw; clear hSw; go_simp; with_reducible rfl)
          try simp only [List.getElem_toArray, List.getElem_cons_zero, List.getElem_cons_succ, Act.put, List.setIfInBounds_toArray, List.set_cons_zero, List.set_cons_succ]
          refine wpAnyH_take (i := 31) (v := ?_) rfl (by kernel_rfl) (by kernel_rfl) (by kernel_rfl) (fun _ _ _ h => h) (Or.inl ⟨by rfl, ?_⟩) HH.out ?_
          rotate_left 1
          first | (intro w hSw; clear hSw; go_simp; done) | (intro w hSw; clear hSw; go_simp; with_reducible rfl)
          try simp only [List.getElem_toArray, List.getElem_cons_zero, List.getElem_cons_succ, Act.put, List.setIfInBounds_toArray, List.set_cons_zero, List.set_cons_succ]
          refine wpAnyH_done (by kernel_rfl) ?_ _
          cases m
          all_goals
            go_wp2_with fail
            go_ret
            exact ⟨rfl, (HK.out.trans HK2.out).trans HH.out⟩
end Go.Proofs.Ytcbpjongpfcmkaa
