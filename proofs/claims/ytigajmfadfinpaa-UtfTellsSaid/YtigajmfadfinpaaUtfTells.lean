/-
  UtfTells' walk.
-/
import Derived.Test.YtigajmfadfinpaaUtfAlive
import Derived.Test.YtigajmfadfinpaaUtfRunes
import Derived.Test.YtigajmfadfinpaaRefUtf
import Derived.Test.YtigajmfadfinpaaRefRune
import Derived.Test.YtigajmfadfinpaaBookApart
import Derived.Lib.IndexBytes
namespace Go.Tru

theorem good_lt : ∀ (l : List UInt8) (c : Chk) (k : Nat), k < l.length → (k < (goodRun c l).1 ↔ (c.run (l.take (k + 1))).bad = false)
  | [], _, k, hk => by simp at hk
  | b :: l, c, 0, _ => by
    rw [List.take_succ_cons, List.take_zero, Chk.run_cons, Chk.run_nil]
    unfold goodRun
    cases hb : (c.step b.toNat).bad <;> simp
  | b :: l, c, k + 1, hk => by
    rw [List.take_succ_cons, Chk.run_cons]
    unfold goodRun
    cases hb : (c.step b.toNat).bad with
    | true =>
      rw [Chk.run_bad hb, hb]
      simp
    | false =>
      have := good_lt l (c.step b.toNat) k (by simpa using hk)
      simp only [Bool.false_eq_true, if_false, ← this]
      omega

theorem good_pre {l : List UInt8} {k : Nat} (hk : k < l.length) (hb : (Chk.zero.run (l.take (k + 1))).bad = false) : goodRun Chk.zero (l.take (k + 1)) = (k + 1, Chk.zero.run (l.take (k + 1))) := by
  have hl : (l.take (k + 1)).length = k + 1 := by rw [List.length_take]; omega
  have h := goodRun_at (c := Chk.zero) (l := l.take (k + 1)) (k + 1) (by omega) (by rw [List.take_take, Nat.min_self]; exact hb) (Or.inl hl.symm)
  rw [List.take_take, Nat.min_self] at h
  exact h

theorem good_len (c : Chk) : ∀ l, (goodRun c l).1 ≤ l.length := by
  intro l
  induction l generalizing c with
  | nil => simp [goodRun]
  | cons b l ih =>
    unfold goodRun
    split
    · exact Nat.zero_le _
    · have := ih (c.step b.toNat)
      simp only [List.length_cons]
      omega

theorem putOf_rune {r : Int} (h : isRune r) : putOf r = enc r := by
  unfold putOf
  unfold isRune at h
  rw [if_pos h]
end Go.Tru
namespace Go.Proofs.Ytigajmfadfinpaa
open Go.RowKit Go.Tru

/-- Put, whatever it is handed -/
theorem put_all (r : Int) : ∃ ok : Bool, (ok != (!(⟨(putOf r).toArray⟩ : ByteArray).toList.isEmpty)) = false ∧ ∀ w, Calls Try.prog 9 #[.int .i64 r] w fun e w' => e = .returned (.tuple #[.string ⟨(putOf r).toArray⟩, .bool ok]) ∧ w = w' := by
  by_cases h : 0 ≤ r ∧ r < 55296 ∨ 57343 < r ∧ r ≤ 1114111
  · have e1 : Utf8.encode r = ⟨(putOf r).toArray⟩ := by
      apply ByteArray.ext
      apply Array.toList_inj.1
      rw [putOf_rune h]
      exact encode_enc h
    refine ⟨true, ?_, fun w => ?_⟩
    · rw [Lib.toList_data]
      have := (enc_len (r := r)).1
      rw [putOf_rune h]
      cases he : enc r with
      | nil => rw [he] at this; simp at this
      | cons a l => rfl
    · have := put_yes r w h
      rw [e1] at this
      exact this
  · have e0 : putOf r = [] := by unfold putOf; rw [if_neg h]
    rw [e0]
    refine ⟨false, ?_, fun w => ?_⟩
    · rw [Lib.toList_data]
      rfl
    · exact put_no r w (by omega)

/-- Runes, whatever it is handed -/
theorem runes_all (s : ByteArray) (hs : s.size ≤ 1000) : ∃ xs : List Int, xs.length ≤ s.size ∧ (∀ x ∈ xs, isRune x) ∧ (utf8 s.data.toList = true → s.data.toList = xs.flatMap enc) ∧ (utf8 s.data.toList = false → xs = []) ∧
    ∀ w, Calls Try.prog 13 #[.string s] w (NewInts w xs) := by
  cases hu : utf8 s.data.toList with
  | true =>
    obtain ⟨rs, h1, h2⟩ := utf8_iff.1 hu
    have hsz : s.size = (rs.flatMap enc).length := by rw [← h2, Array.length_toList]; rfl
    exact ⟨rs, by have := flat_len rs; omega, h1, fun _ => h2, (fun h => by cases h), fun w => runes_yes s rs h1 h2 w (by omega)⟩
  | false =>
    refine ⟨[], Nat.zero_le _, by simp, (fun h => by cases h), fun _ => rfl, fun w => ?_⟩
    refine (runes_no s w (by unfold maxLen; omega) hu).mono ?_
    rintro e w' ⟨rfl, k⟩
    exact ⟨_, rfl, World.ownsRow_nil _ _ _ _, k, by simp⟩

def TlRel (s : ByteArray) (b : Nat) (w : World) (i : Value) (wr : World) : Prop :=
  ∃ k : Nat, k ≤ s.size ∧ i = .int .i64 k ∧ Has wr b (Chk.zero.run (s.data.toList.take k)).cells 25 ∧ Keeps [] w wr

def CtRel (xs : List Int) (w : World) (t i : Value) (wr : World) : Prop :=
  ∃ (k : Nat) (S : ByteArray), k ≤ xs.length ∧ i = .int .i64 k ∧ t = .string S ∧ S.data.toList = (xs.take k).flatMap enc ∧ Keeps [] w wr

set_option maxHeartbeats 6400000 in
set_option maxRecDepth 100000 in
theorem tells_yes (s : ByteArray) (r : Int) (w : World) (hs : s.size ≤ 200) :
    Calls Try.prog 3 #[.string s, .int .i64 r] w fun e w' => e = .returned (.bool true) ∧ Keeps [] w w' := by
  have hll : s.data.toList.length = s.size := by rw [Array.length_toList]; rfl
  have h200 : ¬ 200 < (s.size : Int) := by omega
  obtain ⟨ok, hok, hput⟩ := put_all r
  obtain ⟨xs, hxl, hxr, hxu, hxn, hrun⟩ := runes_all s (by omega)
  obtain ⟨P, hP⟩ : ∃ P : ByteArray, ⟨(putOf r).toArray⟩ = P := ⟨_, rfl⟩
  rw [hP] at hok hput
  obtain ⟨B, hB⟩ : ∃ B, P.toList.isEmpty = B := ⟨_, rfl⟩
  rw [hB] at hok
  obtain rfl : ok = !B := by revert hok; cases ok <;> cases B <;> decide
  clear hok
  have hrr := fun W => refRune r W
  rw [hP] at hrr
  obtain ⟨U, hU⟩ : ∃ U, utf8 s.data.toList = U := ⟨_, rfl⟩
  have hva := fun W => valid_any s W (by unfold maxLen; omega)
  have hvr := fun W => refValid_any s W (by omega)
  rw [hU] at hxu hxn hva hvr
  have hutf := fun W => refUtf_any s W (by omega)
  obtain ⟨G, hG⟩ : ∃ G : Int, ((goodRun Chk.zero s.data.toList).1 : Int) = G := ⟨_, rfl⟩
  rw [hG] at hutf
  have HPUT := Lib.hid hput
  have HRUN := Lib.hid hrun
  have HRR := Lib.hid hrr
  have HVA := Lib.hid hva
  have HVR := Lib.hid hvr
  have HUTF := Lib.hid hutf
  have HXL := Lib.hid hxl
  have HXR := Lib.hid hxr
  have HXU := Lib.hid hxu
  have HXN := Lib.hid hxn
  have HG := Lib.hid hG
  have HLL := Lib.hid hll
  have HSZ := Lib.hid hs
  clear hput hrun hrr hva hvr hutf hxl hxr hxu hxn hG hll hs hU hP
  go_enter Try.func3, Try.ntmps3
  go_wp2_with fail
  refine (alive_any w).mono ?_
  rintro e w1 ⟨rfl, k1⟩
  have K1 := Lib.hid k1
  have z1 := k1.size
  clear k1
  go_wp2_with fail
  refine (HUTF.out _).mono ?_
  rintro e w2 ⟨rfl, rfl⟩
  go_wp2_with fail
  go_loopw [8] (fun i wr => TlRel s w1.heap.size w i wr) (fun i _ => s.size - (intOf i).toNat)
  case atStart => exact ⟨0, Nat.zero_le _, rfl, Has.new' w1 _ _ rfl, K1.out.alloc _⟩
  case round =>
    obtain ⟨k, hk, rfl, hc, hK⟩ := hrel
    have HK := Lib.hid hK
    clear hK
    by_cases hlt : k < s.size
    · have hi : (k : Int) < (s.size : Int) := by omega
      obtain ⟨x, hxx⟩ : ∃ x : Int, (s[k].toNat : Int) = x := ⟨_, rfl⟩
      have hx0 : 0 ≤ x := by omega
      have hx1 : x ≤ 255 := by have := s[k].toNat_lt; omega
      have hkl : k < s.data.toList.length := by rw [HLL.out]; exact hlt
      have hxl : (s.data.toList[k].toNat : Int) = x := by rw [← hxx]; rfl
      have hst : (Chk.zero.run (s.data.toList.take k)).step x = Chk.zero.run (s.data.toList.take (k + 1)) := by rw [take_one hkl, hxl]
      have hgd := good_lt s.data.toList Chk.zero k hkl
      have hgp := good_pre (l := s.data.toList) (k := k) hkl
      have hut2 := fun W => refUtf_any (s.extract 0 (k + 1)) W (by simp [ByteArray.size_extract]; omega)
      rw [show (s.extract 0 (k + 1)).data.toList = s.data.toList.take (k + 1) by rw [Lib.extract_data]; simp] at hut2
      obtain ⟨C2, hC2⟩ : ∃ C, Chk.zero.run (s.data.toList.take (k + 1)) = C := ⟨_, rfl⟩
      rw [hC2] at hst hgd hgp
      obtain ⟨E, hE⟩ : ∃ E, s.extract 0 (k + 1) = E := ⟨_, rfl⟩
      rw [hE] at hut2
      have hkG : (k : Int) < G ↔ C2.bad = false := by rw [← hgd]; have := HG.out; omega
      have hf0 := Chk.fit_run Chk.fit_zero (s.data.toList.take k)
      generalize Chk.zero.run (s.data.toList.take k) = C1 at hc hst hf0
      have HE := Lib.hid hE
      have HCC := Lib.hid hC2
      cases hb : C2.bad with
      | false =>
        have hkg : (k : Int) < G := hkG.2 hb
        have hkg2 : ¬ G ≤ (k : Int) := by omega
        rw [hgp hb] at hut2
        have hwl : (C2.whole == (C2.lack == 0)) = true := by
          unfold Chk.whole
          rw [hb]
          by_cases h0 : C2.lack = 0 <;> simp [h0]
        have HST := Lib.hid (step_lit w1.heap.size 25 C1 C2 x true wr hc ⟨hx0, hx1⟩ hf0 hst (by rw [hb]; rfl))
        have HUT2 := Lib.hid hut2
        have HBAD := Lib.hid hb
        clear hut2 hst hgd hgp hkG hf0 hc hC2 hxl hb
        go_wp2_with fail
        refine HST.out.mono ?_
        rintro e w4 ⟨rfl, h4, k4⟩
        have H4 := Lib.hid h4
        have K4 := Lib.hid (HK.out.trans' k4 (fun i hi => Or.inr (by rw [List.mem_singleton] at hi; omega)))
        clear h4 k4
        go_wp2_with fail
        refine (bad_lit w1.heap.size 25 C2 false w4 H4.out HBAD.out).mono ?_
        rintro e w5 ⟨rfl, rfl⟩
        go_wp2_with fail
        refine (HUT2.out _).mono ?_
        rintro e w5 ⟨rfl, rfl⟩
        go_wp2_with fail
        refine (whole_lit w1.heap.size 25 C2 C2.whole w4 H4.out rfl).mono ?_
        rintro e w5 ⟨rfl, rfl⟩
        go_wp2_with fail
        go_roundw
        case rel => exact ⟨k + 1, by omega, by go_num, by rw [HCC.out]; exact H4.out, K4.out⟩
        case measure => simp [intOf]; omega
      | true =>
        have hkg : ¬ (k : Int) < G := fun h => by have := hkG.1 h; rw [hb] at this; cases this
        have hkg2 : G ≤ (k : Int) := by omega
        have HST := Lib.hid (step_lit w1.heap.size 25 C1 C2 x false wr hc ⟨hx0, hx1⟩ hf0 hst (by rw [hb]; rfl))
        have HWH := Lib.hid (show C2.whole = false by unfold Chk.whole; rw [hb]; rfl)
        have HUT2 := Lib.hid hut2
        have HBAD := Lib.hid hb
        clear hut2 hst hgd hgp hkG hf0 hc hC2 hxl hb
        go_wp2_with fail
        refine HST.out.mono ?_
        rintro e w4 ⟨rfl, h4, k4⟩
        have H4 := Lib.hid h4
        have K4 := Lib.hid (HK.out.trans' k4 (fun i hi => Or.inr (by rw [List.mem_singleton] at hi; omega)))
        clear h4 k4
        go_wp2_with fail
        refine (bad_lit w1.heap.size 25 C2 true w4 H4.out HBAD.out).mono ?_
        rintro e w5 ⟨rfl, rfl⟩
        go_wp2_with fail
        refine (HUT2.out _).mono ?_
        rintro e w5 ⟨rfl, rfl⟩
        go_wp2_with fail
        refine (whole_lit w1.heap.size 25 C2 false w4 H4.out HWH.out).mono ?_
        rintro e w5 ⟨rfl, rfl⟩
        go_wp2_with fail
        go_roundw
        case rel => exact ⟨k + 1, by omega, by go_num, by rw [HCC.out]; exact H4.out, K4.out⟩
        case measure => simp [intOf]; omega
    · have hke : k = s.size := by omega
      subst hke
      have hge : ¬ (s.size : Int) < (s.size : Int) := by omega
      obtain ⟨wo, rfl⟩ : ∃ wo : World, wo = wr := ⟨_, rfl⟩
      clear hc
      go_wp2_with fail
      refine (HPUT.out _).mono ?_
      rintro e w3 ⟨rfl, rfl⟩
      go_wp2_with fail
      refine (HRR.out _).mono ?_
      rintro e w4 ⟨rfl, k4⟩
      have K4 := Lib.hid (HK.out.trans k4)
      clear k4
      go_wp2_with fail
      refine (HVA.out _).mono ?_
      rintro e w5 ⟨rfl, k5⟩
      have K5 := Lib.hid (K4.out.trans k5)
      clear k5
      go_wp2_with fail
      refine (HVR.out _).mono ?_
      rintro e w6 ⟨rfl, rfl⟩
      go_wp2_with fail
      have hbk0 : BookIn (w5.alloc (.cells #[.slice none 0 0, .slice none 0 0, .slice none 0 0, .slice none 0 0, .slice none 0 0, .slice none 0 0] 38)) w.heap.size w5.heap.size (.slice none 0 0) (.slice none 0 0) [] [] :=
        ⟨Has.new' w5 _ _ rfl, OwnsRows.nil _ _, OwnsRows.nil _ _, by simp [blks_nil], by simp [blks_nil], by simp [blks_nil]⟩
      have K6 := Lib.hid (K5.out.alloc (.cells #[.slice none 0 0, .slice none 0 0, .slice none 0 0, .slice none 0 0, .slice none 0 0, .slice none 0 0] 38))
      have hz6 : (w5.alloc (.cells #[.slice none 0 0, .slice none 0 0, .slice none 0 0, .slice none 0 0, .slice none 0 0, .slice none 0 0] 38)).heap.size = w5.heap.size + 1 := by simp
      obtain ⟨w6, hw6⟩ : ∃ w6, w5.alloc (.cells #[.slice none 0 0, .slice none 0 0, .slice none 0 0, .slice none 0 0, .slice none 0 0, .slice none 0 0] 38) = w6 := ⟨_, rfl⟩
      rw [hw6] at hbk0 K6 hz6 ⊢
      obtain ⟨bk, hbk⟩ : ∃ bk, w5.heap.size = bk := ⟨_, rfl⟩
      rw [hbk] at hbk0 hz6 ⊢
      have HK0 := Lib.hid hbk0
      have hzw := K6.out.size
      have hzw5 := K5.out.size
      clear hbk0 hw6
      refine (HRUN.out _).mono ?_
      rintro e w7 ⟨va, rfl, hva, k7, -⟩
      replace hva : OwnsInts w7 w6.heap.size va xs := hva
      obtain ⟨oa, ca, rfl⟩ := hva.shape
      have HA := Lib.hid hva
      have K7 := Lib.hid k7
      have hz7 := k7.size
      clear hva k7
      go_wp2_with fail
      refine (HRUN.out _).mono ?_
      rintro e w8 ⟨vb, rfl, hvb, k8, -⟩
      replace hvb : OwnsInts w8 w7.heap.size vb xs := hvb
      obtain ⟨ob, cb, rfl⟩ := hvb.shape
      have HBV := Lib.hid hvb
      have K8 := Lib.hid k8
      have hz8 := k8.size
      have H8 := Lib.hid (HK0.out.keep0 (K7.out.trans k8))
      have hal := World.ownsRow.lt HA.out
      have hbl := World.ownsRow.lt hvb
      have hxs : xs.length ≤ 1000 := by have := HXL.out; have := HSZ.out; omega
      have ha8 : OwnsInts w8 w.heap.size (.slice oa xs.length ca) xs := ownsRow_base (ownsRow_keeps HA.out k8 (by simp)) hzw
      have hb8 : OwnsInts w8 w.heap.size (.slice ob xs.length cb) xs := ownsRow_base hvb (by omega)
      have HA8 := Lib.hid ha8
      have HB8 := Lib.hid hb8
      have HAL := Lib.hid hal
      have HBL := Lib.hid hbl
      have hi1 := Lib.hid (bookInts_any H8.out (by simp) (by simp) ha8 hxs (fun k hk => ⟨fun h => by have := (HAL.out k (mem_blks.1 hk)).1; omega, by simp [blks_nil], by simp [blks_nil]⟩) (by omega))
      clear hvb k8 hal hbl ha8 hb8
      go_wp2_with fail
      refine hi1.out.mono ?_
      rintro e w9 ⟨rfl, iv1, wv1, u1, hb9, hu1, k9, fi1, fw1, fu1⟩
      simp only [blks_nil, List.append_nil, List.nil_append, List.not_mem_nil, false_or] at k9 fi1 fw1 hb9
      have K9 := Lib.hid k9
      have hz9 := k9.size
      have H9 := Lib.hid hb9
      have HU1 := Lib.hid hu1
      have hu1l := World.ownsRow.lt hu1
      have ha9 : OwnsInts w9 w.heap.size (.slice oa xs.length ca) xs := ownsRow_keeps HA8.out k9 (fun i hi hm => by
        rw [List.mem_singleton] at hm
        have := (HAL.out i hi).1
        omega)
      have hb9' : OwnsInts w9 w.heap.size (.slice ob xs.length cb) xs := ownsRow_keeps HB8.out k9 (fun i hi hm => by
        rw [List.mem_singleton] at hm
        have := (HBL.out i hi).1
        omega)
      have HA9 := Lib.hid ha9
      have HB9 := Lib.hid hb9'
      have FI1 := Lib.hid fi1
      have FW1 := Lib.hid fw1
      have FU1 := Lib.hid fu1
      have HU1L := Lib.hid hu1l
      have hi2 := Lib.hid (bookInts_any hb9 (by simp) (by simp) hb9' hxs (fun k hk => by
        have e1 := HBL.out k (mem_blks.1 hk)
        exact ⟨fun h => by omega, fun hm => by have := FI1.out k hm; omega, fun hm => by have := FW1.out k hm; omega⟩) (by omega))
      clear k9 hb9 hu1 hu1l ha9 hb9' fi1 fw1 fu1 hi1
      go_wp2_with fail
      refine hi2.out.mono ?_
      rintro e w10 ⟨rfl, iv2, wv2, u2, hb10, hu2, k10, fi2, fw2, fu2⟩
      have hz10 := k10.size
      have hout : ∀ x, x ≠ bk → x ∉ blks iv1 → x ∉ blks wv1 → x ∉ bk :: (blks iv1 ++ blks wv1) := fun x h1 h2 h3 hm => by
        rcases List.mem_cons.1 hm with h | h
        · exact h1 h
        · rcases List.mem_append.1 h with h | h
          · exact h2 h
          · exact h3 h
      have ha10 : OwnsInts w10 w.heap.size (.slice oa xs.length ca) xs := ownsRow_keeps HA9.out k10 (fun i hi => hout i (fun h => by have := (HAL.out i hi).1; omega) (fun hm => by have := FI1.out i hm; have := (HAL.out i hi).2; omega) (fun hm => by have := FW1.out i hm; have := (HAL.out i hi).2; omega))
      have hb10' : OwnsInts w10 w.heap.size (.slice ob xs.length cb) xs := ownsRow_keeps HB9.out k10 (fun i hi => hout i (fun h => by have := (HBL.out i hi).1; omega) (fun hm => by have := FI1.out i hm; have := (HBL.out i hi).2; omega) (fun hm => by have := FW1.out i hm; have := (HBL.out i hi).2; omega))
      have hu1' : OwnsInts w10 w.heap.size u1 xs := ownsRow_base (ownsRow_keeps HU1.out k10 (fun i hi => hout i (fun h => by have := (HU1L.out i hi).1; omega) (FU1.out i (mem_blks.2 hi)).1 (FU1.out i (mem_blks.2 hi)).2)) (by omega)
      have hu2' : OwnsInts w10 w.heap.size u2 xs := ownsRow_base hu2 (by omega)
      have HA10 := Lib.hid ha10
      have HB10 := Lib.hid hb10'
      have HUA := Lib.hid hu1'
      have HUB := Lib.hid hu2'
      have HBK := Lib.hid hb10
      have FI2 := Lib.hid fi2
      have FW2 := Lib.hid fw2
      have K10 := Lib.hid (show Keeps [] w w10 from by
        have e1 := ((K6.out.trans K7.out).trans K8.out).trans' K9.out (fun i hi => Or.inr (by rw [List.mem_singleton] at hi; omega))
        exact e1.trans' k10 (fun i hi => Or.inr (by
          rcases List.mem_cons.1 hi with h | h
          · omega
          · rcases List.mem_append.1 h with h | h
            · have := FI1.out i h; omega
            · have := FW1.out i h; omega)))
      have hfit : ∀ x ∈ xs, -9223372036854775808 ≤ x ∧ x ≤ 9223372036854775807 := fun x hx => by
        have := HXR.out x hx
        unfold isRune at this
        omega
      obtain ⟨oa', ca', hsa, hia⟩ := intsIn_of_owns ha10 hfit
      simp only [Value.slice.injEq, true_and] at hsa
      obtain ⟨rfl, rfl⟩ := hsa
      obtain ⟨ob', cb', hsb, hib⟩ := intsIn_of_owns hb10' hfit
      simp only [Value.slice.injEq, true_and] at hsb
      obtain ⟨rfl, rfl⟩ := hsb
      have HIA := Lib.hid hia
      have HIB := Lib.hid hib
      have HFIT := Lib.hid hfit
      have hma := hia.most
      have hmr := hia.room
      unfold maxLen at hma
      clear hb10 hu2 k10 fi2 fw2 fu2 hout ha10 hb10' hu1' hu2' hfit hia hib hi2
      go_wp2_with fail
      go_loopw [17, 114] (fun t i wr => CtRel xs w10 t i wr) (fun _ i _ => xs.length - (intOf i).toNat)
      case atStart => exact ⟨0, ⟨#[]⟩, Nat.zero_le _, rfl, rfl, rfl, Keeps.refl _ _⟩
      case round =>
        obtain ⟨k, S, hk, rfl, rfl, hS, hK⟩ := hrel
        have HK2 := Lib.hid hK
        have HS := Lib.hid hS
        clear hK hS
        by_cases hlt : k < xs.length
        · have hi : (k : Int) < (xs.length : Int) := by omega
          obtain ⟨g, off, rfl, cx⟩ := (HIA.out.keeps HK2.out).get hlt hlt
          have hget : xs[k]? = some xs[k] := List.getElem?_eq_getElem hlt
          have hrn := HXR.out xs[k] (List.getElem_mem hlt)
          have hput := putOf_rune hrn
          have hlx := (enc_len (r := xs[k])).2
          have htk : (xs.take (k + 1)).flatMap enc = (xs.take k).flatMap enc ++ enc xs[k] := flat_take hlt
          have hSz : S.size ≤ 4000 := by
            have h1 : S.size = S.data.toList.length := by rw [Array.length_toList]; rfl
            have h2 : ∀ l : List Int, (l.flatMap enc).length ≤ l.length * 4 := by
              intro l
              induction l with
              | nil => simp
              | cons x l ih =>
                have := (enc_len (r := x)).2
                rw [List.flatMap_cons, List.length_append, List.length_cons]
                omega
            have h3 := h2 (xs.take k)
            rw [h1, HS.out]
            rw [List.length_take] at h3
            omega
          generalize xs[k] = x at cx hput hlx htk
          have hrr := fun W => refRune x W
          rw [hput] at hrr
          obtain ⟨D, hD⟩ : ∃ D : ByteArray, ⟨(enc x).toArray⟩ = D := ⟨_, rfl⟩
          have hDd : D.data.toList = enc x := by rw [← hD]
          have hDs : D.size ≤ 4 := by
            have h1 : D.size = D.data.toList.length := by rw [Array.length_toList]; rfl
            rw [h1, hDd]; exact hlx
          rw [hD] at hrr
          have HRX := Lib.hid hrr
          have HDD := Lib.hid hDd
          have HTK := Lib.hid htk
          have hsum : ¬ 281474976710656 < S.size + D.size := by omega
          clear hrr hD hDd htk hput hlx hrn hget hSz hDs
          go_wp2_with fail
          refine (HRX.out _).mono ?_
          rintro e w11 ⟨rfl, k11⟩
          have K11 := Lib.hid (HK2.out.trans k11)
          clear k11
          go_wp2_with fail
          go_roundw
          case rel => exact ⟨k + 1, _, by omega, by go_num, rfl, by rw [ByteArray.data_append, Array.toList_append, HS.out, HDD.out, HTK.out], K11.out⟩
          case measure => simp [intOf]; omega
        · have hkx : k = xs.length := by omega
          subst hkx
          have hge2 : ¬ (xs.length : Int) < (xs.length : Int) := by omega
          have hSS := HS.out
          rw [List.take_length] at hSS
          have hsm := fun W (kk : Keeps [] w10 W) => sameInts_any _ _ _ _ _ _ _ _ W (HIA.out.keeps kk) (HIB.out.keeps kk)
          rw [decide_eq_true rfl] at hsm
          have HSM := Lib.hid hsm
          obtain ⟨wq, rfl⟩ : ∃ wq : World, wq = wr := ⟨_, rfl⟩
          clear hsm
          have hend : ∀ (W : World), Keeps [] w10 W → Calls Try.prog 16 #[.pointer (some ⟨bk, 0, none⟩)] W fun e w' => e = .returned (.bool true) ∧ Keeps [] w w' := by
            intro W kk
            have hap := apart_yes (fun _ => xs) (HBK.out.keep0 kk) (by simp) (by simp) (fun _ => by omega) (by have h1 := K10.out.size; have h2 := kk.size; omega) (fun _ => HFIT.out)
              (fun i v hv => by
                match i, hv with
                | 0, hv =>
                  injection hv with hv
                  subst hv
                  exact ownsRow_keeps HA10.out kk (by simp)
                | 1, hv =>
                  injection hv with hv
                  subst hv
                  exact ownsRow_keeps HB10.out kk (by simp)
                | i + 2, hv => simp at hv)
              (fun i v hv => by
                match i, hv with
                | 0, hv =>
                  injection hv with hv
                  subst hv
                  exact ownsRow_keeps HUA.out kk (by simp)
                | 1, hv =>
                  injection hv with hv
                  subst hv
                  exact ownsRow_keeps HUB.out kk (by simp)
                | i + 2, hv => simp at hv)
              (fun i j v u hv hu hij x hx hm => by
                match i, j, hv, hu with
                | 0, 0, _, _ => exact hij rfl
                | 1, 1, _, _ => exact hij rfl
                | 0, 1, hv, hu =>
                  injection hv with hv
                  injection hu with hu
                  subst hv
                  subst hu
                  have e1 := HAL.out x (mem_blks.1 hx)
                  have e2 := HBL.out x (mem_blks.1 hm)
                  omega
                | 1, 0, hv, hu =>
                  injection hv with hv
                  injection hu with hu
                  subst hv
                  subst hu
                  have e1 := HBL.out x (mem_blks.1 hx)
                  have e2 := HAL.out x (mem_blks.1 hm)
                  omega
                | i + 2, _, hv, _ => simp at hv
                | _, j + 2, _, hu => simp at hu)
              (fun i v hv x hx => by
                have key : ∀ x, bk < x → x < w8.heap.size → x ≠ bk ∧ x ∉ blks iv2 ∧ x ∉ blks wv2 := fun x h1 h2 => by
                  refine ⟨by omega, fun hm => ?_, fun hm => ?_⟩
                  · rcases FI2.out x hm with h | h
                    · have := FI1.out x h; omega
                    · omega
                  · rcases FW2.out x hm with h | h
                    · have := FW1.out x h; omega
                    · omega
                match i, hv with
                | 0, hv =>
                  injection hv with hv
                  subst hv
                  have e1 := HAL.out x (mem_blks.1 hx)
                  exact key x (by omega) (by omega)
                | 1, hv =>
                  injection hv with hv
                  subst hv
                  have e1 := HBL.out x (mem_blks.1 hx)
                  exact key x (by omega) (by omega)
                | i + 2, hv => simp at hv)
            refine hap.mono ?_
            rintro e w' ⟨rfl, k⟩
            refine ⟨rfl, (K10.out.trans kk).trans' k (fun x hx => Or.inr ?_)⟩
            obtain ⟨v, hv, hx⟩ := List.mem_flatMap.1 hx
            simp only [List.mem_append, List.mem_singleton] at hv
            rcases hv with rfl | rfl
            · have := HAL.out x (mem_blks.1 hx); omega
            · have := HBL.out x (mem_blks.1 hx); omega
          have HEND := Lib.hid hend
          clear hend
          cases U with
          | true =>
            have hSe : S = s := by
              apply ByteArray.ext
              apply Array.toList_inj.1
              rw [hSS, HXU.out rfl]
            subst hSe
            clear hSS
            go_wp2_with fail
            refine (HVR.out _).mono ?_
            rintro e w12 ⟨rfl, rfl⟩
            go_wp2_with fail
            refine (HVR.out _).mono ?_
            rintro e w12 ⟨rfl, rfl⟩
            go_wp2_with fail
            refine (HSM.out _ HK2.out).mono ?_
            rintro e w12 ⟨rfl, k12⟩
            have K12 := Lib.hid (HK2.out.trans k12)
            clear k12
            go_wp2_with fail
            refine (check_step_nil 97 _).mono ?_
            rintro e w13 ⟨rfl, rfl⟩
            go_wp2_with fail
            refine (check_whole_nil _).mono ?_
            rintro e w13 ⟨rfl, rfl⟩
            go_wp2_with fail
            refine (check_bad_nil _).mono ?_
            rintro e w13 ⟨rfl, rfl⟩
            go_wp2_with fail
            refine (HEND.out _ K12.out).mono ?_
            rintro e w14 ⟨rfl, k14⟩
            have K14 := Lib.hid k14
            clear k14
            go_wp2_with fail
            go_ret
            exact ⟨rfl, K14.out⟩
          | false =>
            clear hSS
            obtain rfl : xs = [] := HXN.out rfl
            have hsm0 : ∀ W, Keeps [] w10 W → Calls Try.prog 15 #[.slice oa 0 ca, .slice ob 0 cb] W fun e w' => e = .returned (.bool true) ∧ Keeps [] W w' := HSM.out
            replace HSM := Lib.hid hsm0
            clear hsm0
            go_wp2_with fail
            refine (HVR.out _).mono ?_
            rintro e w12 ⟨rfl, rfl⟩
            go_wp2_with fail
            refine (HVR.out _).mono ?_
            rintro e w12 ⟨rfl, rfl⟩
            go_wp2_with fail
            refine (HSM.out _ HK2.out).mono ?_
            rintro e w12 ⟨rfl, k12⟩
            have K12 := Lib.hid (HK2.out.trans k12)
            clear k12
            go_wp2_with fail
            refine (check_step_nil 97 _).mono ?_
            rintro e w13 ⟨rfl, rfl⟩
            go_wp2_with fail
            refine (check_whole_nil _).mono ?_
            rintro e w13 ⟨rfl, rfl⟩
            go_wp2_with fail
            refine (check_bad_nil _).mono ?_
            rintro e w13 ⟨rfl, rfl⟩
            go_wp2_with fail
            refine (HEND.out _ K12.out).mono ?_
            rintro e w14 ⟨rfl, k14⟩
            have K14 := Lib.hid k14
            clear k14
            go_wp2_with fail
            go_ret
            exact ⟨rfl, K14.out⟩

theorem utfTells_walk (s : ByteArray) (r : Int) (w : World) (hs : s.size ≤ maxLen) (_ : -9223372036854775808 ≤ r ∧ r ≤ 9223372036854775807) :
    Calls Try.prog 3 #[.string s, .int .i64 r] w fun e w' => e = .returned (.bool true) ∧ Below w.heap.size w w' := by
  refine Calls.mono (R := fun e w' => e = .returned (.bool true) ∧ Keeps [] w w') ?_ (fun e w' h => ⟨h.1, h.2.all⟩)
  unfold maxLen at hs
  by_cases h : s.size ≤ 200
  · exact tells_yes s r w h
  · have h200 : 200 < (s.size : Int) := by omega
    clear h
    go_enter Try.func3, Try.ntmps3
    go_wp2_with fail
    refine (alive_any w).mono ?_
    rintro e w1 ⟨rfl, k1⟩
    have K1 := Lib.hid k1
    clear k1
    go_wp2_with fail
    go_ret
    exact ⟨rfl, K1.out⟩
end Go.Proofs.Ytigajmfadfinpaa
