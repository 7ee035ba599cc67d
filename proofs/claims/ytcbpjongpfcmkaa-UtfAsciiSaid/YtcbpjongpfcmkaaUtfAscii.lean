/-
  UtfAscii's walk.
-/
import Derived.Test.YtcbpjongpfcmkaaUtfAlive
import Derived.Test.YtcbpjongpfcmkaaUtfRunes
namespace Go.Proofs.Ytcbpjongpfcmkaa
open Go.RowKit Go.Tru

theorem str1 (W : World) (b : Int) (n : Nat) (hn : n = W.heap.size) :
    (convert 34 9 (.slice (some ⟨n, 0, none⟩) 1 1)).run Try.prog (W.alloc (.cells #[.int .u8 b] 5)) = .ok (.string (strOfNums [b])) (W.alloc (.cells #[.int .u8 b] 5)) :=
  run_bytes_lit 34 9 5 Try.underlying34 Try.underlying5 Try.underlying9 [b] W n hn

set_option maxHeartbeats 400000 in
set_option maxRecDepth 100000 in
theorem utfAscii_walk (b : Int) (w : World) (hb : 0 ≤ b ∧ b ≤ 255) :
    Calls Try.prog 8 #[.int .u8 b] w fun e w' => e = .returned (.bool true) ∧ Below w.heap.size w w' := by
  obtain ⟨hb1, hb2⟩ := hb
  have hstr := str1
  go_enter Try.func8, Try.ntmps8
  go_wp2_with fail
  refine (alive_any w).mono ?_
  rintro e w1 ⟨rfl, k1⟩
  have K1 := Lib.hid k1
  clear k1
  go_wp2_with fail
  have hb8 : ((UInt8.ofNat b.toNat).toNat : Int) = b := by rw [toNat_ofNat (by omega)]; omega
  have hdata : (strOfNums [b]).data.toList = [UInt8.ofNat b.toNat] := rfl
  have hsize : (strOfNums [b]).size = 1 := rfl
  by_cases hlt : b < 128
  · have hstep : Chk.zero.step b = ⟨0, 128, 191, false⟩ := by
      rw [Chk.step_clean Chk.clean_zero]
      simp only [Chk.begin, Chk.zero, leadLack, leadLow, leadHigh, leadOk, Chk.mk.injEq]
      refine ⟨?_, ?_, ?_, by simp; omega⟩ <;> repeat' (first | omega | split)
    have henc := enc_of1 (a := UInt8.ofNat b.toNat) (by omega)
    rw [hb8] at henc
    have hut : utf8 (strOfNums [b]).data.toList = true := utf8_iff.2 ⟨[b], by simpa using henc.1, by rw [hdata]; simp [henc.2]⟩
    have HE := Lib.hid henc
    have HS := Lib.hid hstep
    have HU := Lib.hid hut
    clear henc hstep hut hb8 hdata
    refine (step_lit w1.heap.size 29 Chk.zero _ _ true _ ((Has.new' w1 _ _ rfl).alloc _) ⟨hb1, hb2⟩ Chk.fit_zero HS.out rfl).mono ?_
    rintro e w2 ⟨rfl, h2, k2⟩
    have K2 := Lib.hid k2
    have hz2 := k2.size
    simp only [World.size_alloc] at hz2
    clear k2
    go_wp2_with fail
    refine (runes_yes (strOfNums [b]) [b] (by simpa using HE.out.1) (by rw [str_data]; simp [HE.out.2]) w2 (by rw [hsize]; omega)).mono ?_
    rintro e w3 ⟨v, rfl, hown, k3, hnil⟩
    obtain ⟨g, cap, rfl, hg, hcell⟩ := ints_some hown (by simp)
    have h3 := h2.keeps k3 (by simp)
    have hc0 := hcell 0 b (by simp)
    have K3 := Lib.hid k3
    have HG := Lib.hid hown
    clear k3 hown hnil hcell h2
    go_wp2_with fail
    refine (whole_lit w1.heap.size _ _ true _ h3 rfl).mono ?_
    rintro e w4 ⟨rfl, rfl⟩
    go_wp2_with fail
    refine (valid_lit _ true _ (by rw [hsize]; decide) HU.out).mono ?_
    rintro e w5 ⟨rfl, k5⟩
    have K5 := Lib.hid k5
    have hc5 := k5.cell hc0 (by simp)
    clear k5 hc0
    go_wp2_with fail
    go_ret
    have hz := K1.out.size
    refine ⟨?_, (((((K1.out.alloc _).alloc _).one K2.out hz).trans K3.out).trans K5.out).all⟩
    first | rfl | (simp; omega)
  · have hnu : utf8 (strOfNums [b]).data.toList = false := by
      rw [hdata]
      unfold utf8
      rw [Chk.run_cons, Chk.run_nil, hb8, Chk.step_clean Chk.clean_zero]
      simp only [Chk.whole, Chk.begin, Chk.zero, leadLack, leadOk]
      rcases (show b < 194 ∨ 194 ≤ b ∧ b ≤ 223 ∨ 224 ≤ b ∧ b ≤ 239 ∨ 240 ≤ b ∧ b ≤ 244 ∨ 244 < b by omega) with h | h | h | h | h
      all_goals simp
      all_goals repeat' (first | omega | split)
    have HU := Lib.hid hnu
    have hf : ∀ x : Int, (Chk.zero.step x).Fit := fun x => Chk.fit_step Chk.fit_zero x
    obtain ⟨c', hc⟩ : ∃ c', c' = Chk.zero.step b := ⟨_, rfl⟩
    have hbad : c'.bad = !decide (194 ≤ b ∧ b ≤ 244) := by
      rw [hc, Chk.step_clean Chk.clean_zero]
      have : leadOk b = decide (194 ≤ b ∧ b ≤ 244) := by simp only [leadOk, decide_eq_decide]; omega
      rw [this]
    have hwh : c'.whole = false := by
      have := HU.out
      unfold utf8 at this
      rw [hdata, Chk.run_cons, Chk.run_nil, hb8, ← hc] at this
      exact this
    have HC := Lib.hid hc
    have HW := Lib.hid hwh
    have HB := Lib.hid hbad
    clear hnu hf hc hbad hwh hb8 hdata
    rcases (show (b < 194 ∨ 244 < b) ∨ (194 ≤ b ∧ b ≤ 244) by omega) with hl | ⟨hl1, hl2⟩
    · have hd : decide (194 ≤ b ∧ b ≤ 244) = false := by simp; omega
      have HD := Lib.hid hd
      clear hd
      rcases hl with hl | hl
      all_goals
        refine (step_lit w1.heap.size 29 Chk.zero c' _ false _ ((Has.new' w1 _ _ rfl).alloc _) ⟨hb1, hb2⟩ Chk.fit_zero HC.out.symm (by rw [HB.out, HD.out]; rfl)).mono ?_
        rintro e w2 ⟨rfl, h2, k2⟩
        have K2 := Lib.hid k2
        have hz2 := k2.size
        simp only [World.size_alloc] at hz2
        clear k2
        go_wp2_with fail
        refine (runes_no (strOfNums [b]) w2 (by rw [hsize]; decide) HU.out).mono ?_
        rintro e w3 ⟨rfl, k3⟩
        have h3 := h2.keeps k3 (by simp)
        have K3 := Lib.hid k3
        clear k3 h2
        go_wp2_with fail
        refine (whole_lit w1.heap.size _ _ false _ h3 HW.out).mono ?_
        rintro e w4 ⟨rfl, rfl⟩
        go_wp2_with fail
        refine (bad_lit w1.heap.size _ _ true _ h3 (by rw [HB.out, HD.out]; rfl)).mono ?_
        rintro e w4 ⟨rfl, rfl⟩
        go_wp2_with fail
        refine (valid_lit _ false _ (by rw [hsize]; decide) HU.out).mono ?_
        rintro e w5 ⟨rfl, k5⟩
        have K5 := Lib.hid k5
        clear k5
        go_wp2_with fail
        go_ret
        have hz := K1.out.size
        refine ⟨?_, (((((K1.out.alloc _).alloc _).one K2.out hz).trans K3.out).trans K5.out).all⟩
        first | rfl | (simp; omega)
    · have hd : decide (194 ≤ b ∧ b ≤ 244) = true := by simp; omega
      have HD := Lib.hid hd
      clear hd
      refine (step_lit w1.heap.size 29 Chk.zero c' _ true _ ((Has.new' w1 _ _ rfl).alloc _) ⟨hb1, hb2⟩ Chk.fit_zero HC.out.symm (by rw [HB.out, HD.out]; rfl)).mono ?_
      rintro e w2 ⟨rfl, h2, k2⟩
      have K2 := Lib.hid k2
      have hz2 := k2.size
      simp only [World.size_alloc] at hz2
      clear k2
      go_wp2_with fail
      refine (runes_no (strOfNums [b]) w2 (by rw [hsize]; decide) HU.out).mono ?_
      rintro e w3 ⟨rfl, k3⟩
      have h3 := h2.keeps k3 (by simp)
      have K3 := Lib.hid k3
      clear k3 h2
      go_wp2_with fail
      refine (whole_lit w1.heap.size _ _ false _ h3 HW.out).mono ?_
      rintro e w4 ⟨rfl, rfl⟩
      go_wp2_with fail
      refine (bad_lit w1.heap.size _ _ false _ h3 (by rw [HB.out, HD.out]; rfl)).mono ?_
      rintro e w4 ⟨rfl, rfl⟩
      go_wp2_with fail
      refine (valid_lit _ false _ (by rw [hsize]; decide) HU.out).mono ?_
      rintro e w5 ⟨rfl, k5⟩
      have K5 := Lib.hid k5
      clear k5
      go_wp2_with fail
      go_ret
      have hz := K1.out.size
      refine ⟨?_, (((((K1.out.alloc _).alloc _).one K2.out hz).trans K3.out).trans K5.out).all⟩
      first | rfl | (simp; omega)
end Go.Proofs.Ytcbpjongpfcmkaa
