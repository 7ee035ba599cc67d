/-
  escape.Reader in the middle of a block: Step and Whole: their contracts.
-/
import Derived.Test.YtbeocehadnhmnaaEscStep
namespace Go.Proofs.Ytbeocehadnhmnaa
open Go.RowKit Go.Tru

theorem digit_any (b : Nat) (pre post : List Value) (t : TypeId) (r : Rdr) (x : Int) (w : World) (h : Has w b (pre ++ r.cells ++ post) t) (off : Nat) (hoff : off = pre.length) (hx : 0 ≤ x) (hx2 : x ≤ 255) (he : r.e = 0) (hh : Hexes r.n r.r) (hpair : r.pair = 0 ∨ 55296 ≤ r.pair ∧ r.pair ≤ 56319) :
    Calls Try.prog 59 #[.pointer (some ⟨b, off, none⟩), .int .u8 x] w fun e w' => e = .returned (txtVal (r.digit x).2 (r.digit x).1.e) ∧ RdrPost w b pre post t { (r.digit x).1 with e := 0 } w' := by
  unfold Hexes at hh
  by_cases hn : hexOf x < 0
  · exact digit_none b pre post t r x w h off hx hx2 he hn
  · by_cases hm : r.n < 3
    · exact digit_more b pre post t r x w h off hoff hx hx2 he (by omega) (by omega) (by omega)
    · exact digit_last b pre post t r x w h off hoff hx hx2 he (by omega) (by omega) (by omega) hpair

set_option maxHeartbeats 1000000 in
theorem rdr_step_bad (b : Nat) (pre post : List Value) (t : TypeId) (r : Rdr) (x : Int) (w : World) (h : Has w b (pre ++ r.cells ++ post) t) (off : Nat) (hoff : off = pre.length) (he : ¬ r.e = 0) :
    Calls Try.prog 46 #[.pointer (some ⟨b, off, none⟩), .int .u8 x] w fun e w' => e = .returned (txtVal (r.step x).2 (r.step x).1.e) ∧ RdrPost w b pre post t (r.step x).1 w' := by
  have hs : r.step x = (r, []) := by unfold Rdr.step; rw [if_pos he]
  have he' : (r.e != 0) = true := by simp [he]
  obtain ⟨g4, g5, g6, g7, g8⟩ := rdr_cell h hoff
  rw [hs]
  have H := Lib.hid h
  clear h hoff he hs
  go_enter Try.func46, Try.ntmps46
  go_wp2_with fail
  go_region
  all_goals
    go_wp2_with fail
    go_ret2
    exact ⟨rfl, rdrPost_of H.out.drew (Keeps.refl _ _).drew⟩

set_option maxHeartbeats 1000000 in
theorem rdr_step_may (b : Nat) (pre post : List Value) (t : TypeId) (r : Rdr) (x : Int) (w : World) (h : Has w b (pre ++ r.cells ++ post) t) (off : Nat) (hoff : off = pre.length) (hx : 0 ≤ x) (hx2 : x ≤ 255) (he : r.e = 0) (hp : 0 < r.pair) (hm : r.may x = false) :
    Calls Try.prog 46 #[.pointer (some ⟨b, off, none⟩), .int .u8 x] w fun e w' => e = .returned (txtVal (r.step x).2 (r.step x).1.e) ∧ RdrPost w b pre post t (r.step x).1 w' := by
  have hs : r.step x = ({ r with e := 9 }, []) := by unfold Rdr.step; rw [if_neg (by simp [he]), if_pos ⟨hp, hm⟩]
  obtain ⟨g4, g5, g6, g7, g8⟩ := rdr_cell h hoff
  rw [he] at g8
  rw [hs]
  have hmay := may_any b pre post t r x w h off hoff hx hx2
  rw [hm] at hmay
  have f8 := h.free (off + 8)
  have H := Lib.hid h
  have HO := Lib.hid hoff
  have H9 := Lib.hid ((mid_set h hoff 8 (.int .i64 9) (by simp [Rdr.cells, Chk.cells])).conv (by simp [Rdr.cells, Chk.cells]) : Has (w.setCell ⟨b, off + 8, none⟩ (.int .i64 9)) b (pre ++ Rdr.cells { r with e := 9 } ++ post) t)
  have g8' := (rdr_cell H9.out hoff).2.2.2.2
  clear h hoff he hs hm
  go_enter Try.func46, Try.ntmps46
  go_wp2_with fail
  refine hmay.mono ?_
  rintro e w1 ⟨rfl, rfl⟩
  go_wp2_with fail
  go_region
  all_goals
    go_wp2_with fail
    go_ret2
    exact ⟨rfl, rdrPost_of H9.out.drew ((Keeps.refl _ _).set1 _).drew⟩

/-- behind the inner call: its error is laid, its text goes out -/
theorem rdr_put {w1 : World} {b : Nat} {pre post : List Value} {t : TypeId} {r' : Rdr} {off : Nat} (h : Has w1 b (pre ++ Rdr.cells { r' with e := 0 } ++ post) t) (hoff : off = pre.length) :
    Has (w1.setCell ⟨b, off + 8, none⟩ (.int .i64 r'.e)) b (pre ++ r'.cells ++ post) t :=
  (mid_set h hoff 8 (.int .i64 r'.e) (by simp [Rdr.cells, Chk.cells])).conv (by simp [Rdr.cells, Chk.cells])

set_option maxHeartbeats 2000000 in
theorem rdr_step_go (b : Nat) (pre post : List Value) (t : TypeId) (r : Rdr) (x : Int) (w : World) (h : Has w b (pre ++ r.cells ++ post) t) (off : Nat) (hoff : off = pre.length) (hx : 0 ≤ x) (hx2 : x ≤ 255) (hf : r.Fit) (he : r.e = 0) (hp : r.pair = 0 ∨ 0 < r.pair ∧ r.may x = true) :
    Calls Try.prog 46 #[.pointer (some ⟨b, off, none⟩), .int .u8 x] w fun e w' => e = .returned (txtVal (r.step x).2 (r.step x).1.e) ∧ RdrPost w b pre post t (r.step x).1 w' := by
  have hs : r.step x = if r.state = 0 then r.plain x else if r.state = 1 then r.behind x else r.digit x := by
    unfold Rdr.step
    rw [if_neg (by simp [he]), if_neg (by rintro ⟨a, c⟩; rcases hp with h1 | h1; · omega
                                          · rw [h1.2] at c; cases c)]
  obtain ⟨g4, g5, g6, g7, g8⟩ := rdr_cell h hoff
  rw [he] at g8
  have hmay := may_any b pre post t r x w h off hoff hx hx2
  have hpl := escPlain_any b pre post t r x w h off hoff hx hx2 hf he
  have hbe := behind_any b pre post t r x w h off hoff hx hx2 he
  have hh : r.state = 2 → Hexes r.n r.r := fun h2 => by
    rcases hf.st with a | a | a
    · omega
    · omega
    · exact a.2
  have hdi := fun h2 => digit_any b pre post t r x w h off hoff hx hx2 he (hh h2) hf.pair
  have HO := Lib.hid hoff
  have hst := hf.st
  clear h hoff hf hh
  rcases hst with h0 | h1 | ⟨h2, _⟩
  · rw [if_pos h0] at hs
    rw [hs]
    rw [h0] at g4
    obtain ⟨r', hr'⟩ : ∃ r', r.plain x = r' := ⟨_, rfl⟩
    rw [hr'] at hpl ⊢
    obtain ⟨r1, out⟩ := r'
    simp only at hpl ⊢
    clear hbe hdi hr' hs h0 he
    rcases hp with hp | ⟨hp, hm⟩
    · rw [hp] at g7
      clear hmay hp
      go_enter Try.func46, Try.ntmps46
      go_wp2_with fail
      refine hpl.mono ?_
      rintro e w1 ⟨rfl, h1, k1⟩
      simp only [txtVal]
      have f8 := h1.free (off + 8)
      have g9 := (rdr_cell h1 HO.out).2.2.2.2
      have H1 := Lib.hid (rdr_put h1 HO.out)
      have K1 := Lib.hid k1
      have hl := h1.lt
      clear h1 k1
      go_wp2_with fail
      go_region
      all_goals
        go_wp2_with fail
        go_ret2
        exact ⟨rfl, rdrPost_of H1.out.drew (K1.out.set1 _).drew⟩
    · rw [hm] at hmay
      clear hm
      go_enter Try.func46, Try.ntmps46
      go_wp2_with fail
      refine hmay.mono ?_
      rintro e w1 ⟨rfl, rfl⟩
      go_wp2_with fail
      refine hpl.mono ?_
      rintro e w1 ⟨rfl, h1, k1⟩
      simp only [txtVal]
      have f8 := h1.free (off + 8)
      have g9 := (rdr_cell h1 HO.out).2.2.2.2
      have H1 := Lib.hid (rdr_put h1 HO.out)
      have K1 := Lib.hid k1
      have hl := h1.lt
      clear h1 k1
      go_wp2_with fail
      go_region
      all_goals
        go_wp2_with fail
        go_ret2
        exact ⟨rfl, rdrPost_of H1.out.drew (K1.out.set1 _).drew⟩
  · rw [if_neg (by omega), if_pos h1] at hs
    rw [hs]
    rw [h1] at g4
    obtain ⟨r', hr'⟩ : ∃ r', r.behind x = r' := ⟨_, rfl⟩
    rw [hr'] at hbe ⊢
    obtain ⟨r1, out⟩ := r'
    simp only at hbe ⊢
    clear hpl hdi hr' hs h1 he
    rcases hp with hp | ⟨hp, hm⟩
    · rw [hp] at g7
      clear hmay hp
      go_enter Try.func46, Try.ntmps46
      go_wp2_with fail
      refine hbe.mono ?_
      rintro e w1 ⟨rfl, h1, k1⟩
      simp only [txtVal]
      have f8 := h1.free (off + 8)
      have g9 := (rdr_cell h1 HO.out).2.2.2.2
      have H1 := Lib.hid (rdr_put h1 HO.out)
      have K1 := Lib.hid k1
      have hl := h1.lt
      clear h1 k1
      go_wp2_with fail
      go_region
      all_goals
        go_wp2_with fail
        go_ret2
        exact ⟨rfl, rdrPost_of H1.out.drew (K1.out.set1 _).drew⟩
    · rw [hm] at hmay
      clear hm
      go_enter Try.func46, Try.ntmps46
      go_wp2_with fail
      refine hmay.mono ?_
      rintro e w1 ⟨rfl, rfl⟩
      go_wp2_with fail
      refine hbe.mono ?_
      rintro e w1 ⟨rfl, h1, k1⟩
      simp only [txtVal]
      have f8 := h1.free (off + 8)
      have g9 := (rdr_cell h1 HO.out).2.2.2.2
      have H1 := Lib.hid (rdr_put h1 HO.out)
      have K1 := Lib.hid k1
      have hl := h1.lt
      clear h1 k1
      go_wp2_with fail
      go_region
      all_goals
        go_wp2_with fail
        go_ret2
        exact ⟨rfl, rdrPost_of H1.out.drew (K1.out.set1 _).drew⟩
  · rw [if_neg (by omega), if_neg (by omega)] at hs
    rw [hs]
    rw [h2] at g4
    have hdi := hdi h2
    obtain ⟨r', hr'⟩ : ∃ r', r.digit x = r' := ⟨_, rfl⟩
    rw [hr'] at hdi ⊢
    obtain ⟨r1, out⟩ := r'
    simp only at hdi ⊢
    clear hpl hbe hr' hs h2 he
    rcases hp with hp | ⟨hp, hm⟩
    · rw [hp] at g7
      clear hmay hp
      go_enter Try.func46, Try.ntmps46
      go_wp2_with fail
      refine hdi.mono ?_
      rintro e w1 ⟨rfl, h1, k1⟩
      simp only [txtVal]
      have f8 := h1.free (off + 8)
      have g9 := (rdr_cell h1 HO.out).2.2.2.2
      have H1 := Lib.hid (rdr_put h1 HO.out)
      have K1 := Lib.hid k1
      have hl := h1.lt
      clear h1 k1
      go_wp2_with fail
      go_region
      all_goals
        go_wp2_with fail
        go_ret2
        exact ⟨rfl, rdrPost_of H1.out.drew (K1.out.set1 _).drew⟩
    · rw [hm] at hmay
      clear hm
      go_enter Try.func46, Try.ntmps46
      go_wp2_with fail
      refine hmay.mono ?_
      rintro e w1 ⟨rfl, rfl⟩
      go_wp2_with fail
      refine hdi.mono ?_
      rintro e w1 ⟨rfl, h1, k1⟩
      simp only [txtVal]
      have f8 := h1.free (off + 8)
      have g9 := (rdr_cell h1 HO.out).2.2.2.2
      have H1 := Lib.hid (rdr_put h1 HO.out)
      have K1 := Lib.hid k1
      have hl := h1.lt
      clear h1 k1
      go_wp2_with fail
      go_region
      all_goals
        go_wp2_with fail
        go_ret2
        exact ⟨rfl, rdrPost_of H1.out.drew (K1.out.set1 _).drew⟩

theorem rdr_step (b : Nat) (pre post : List Value) (t : TypeId) (r : Rdr) (x : Int) (w : World) (h : Has w b (pre ++ r.cells ++ post) t) (off : Nat) (hoff : off = pre.length) (hx : 0 ≤ x) (hx2 : x ≤ 255) (hf : r.Fit) :
    Calls Try.prog 46 #[.pointer (some ⟨b, off, none⟩), .int .u8 x] w fun e w' => e = .returned (txtVal (r.step x).2 (r.step x).1.e) ∧ RdrPost w b pre post t (r.step x).1 w' := by
  by_cases he : r.e = 0
  · rcases hf.pair with hp | ⟨hp, _⟩
    · exact rdr_step_go b pre post t r x w h off hoff hx hx2 hf he (Or.inl hp)
    · cases hm : r.may x
      · exact rdr_step_may b pre post t r x w h off hoff hx hx2 he (by omega) hm
      · exact rdr_step_go b pre post t r x w h off hoff hx hx2 hf he (Or.inr ⟨by omega, hm⟩)
  · exact rdr_step_bad b pre post t r x w h off hoff he

set_option maxHeartbeats 1000000 in
theorem rdr_whole (b : Nat) (pre post : List Value) (t : TypeId) (r : Rdr) (w : World) (h : Has w b (pre ++ r.cells ++ post) t) (off : Nat) (hoff : off = pre.length) :
    Calls Try.prog 44 #[.pointer (some ⟨b, off, none⟩)] w fun e w' => e = .returned (.bool r.whole) ∧ w = w' := by
  obtain ⟨g4, g5, g6, g7, g8⟩ := rdr_cell h hoff
  have hwh := check_whole b pre _ t r.c w (h.conv (rdr_split pre post r)) off hoff
  clear h hoff
  by_cases h1 : r.e = 0
  · by_cases h2 : r.state = 0
    · by_cases h3 : r.pair = 0
      · have hw : r.whole = r.c.whole := by simp [Rdr.whole, h1, h2, h3]
        rw [h1] at g8
        rw [h2] at g4
        rw [h3] at g7
        rw [hw]
        generalize r.c.whole = cw at hwh ⊢
        clear h1 h2 h3 hw
        go_enter Try.func44, Try.ntmps44
        go_wp2_with fail
        refine hwh.mono ?_
        rintro e w1 ⟨rfl, rfl⟩
        go_wp2_with fail
        go_ret
        exact ⟨rfl, rfl⟩
      · have hw : r.whole = false := by simp [Rdr.whole, h3]
        have h3' : (r.pair == 0) = false := by simp [h3]
        rw [h1] at g8
        rw [h2] at g4
        rw [hw]
        clear h1 h2 h3 hw hwh
        go_enter Try.func44, Try.ntmps44
        go_wp2_with fail
        go_ret
        exact ⟨rfl, rfl⟩
    · have hw : r.whole = false := by simp [Rdr.whole, h2]
      have h2' : (r.state == 0) = false := by simp [h2]
      rw [h1] at g8
      rw [hw]
      clear h1 h2 hw hwh
      go_enter Try.func44, Try.ntmps44
      go_wp2_with fail
      go_ret
      exact ⟨rfl, rfl⟩
  · have hw : r.whole = false := by simp [Rdr.whole, h1]
    have h1' : (r.e == 0) = false := by simp [h1]
    rw [hw]
    clear h1 hw hwh
    go_enter Try.func44, Try.ntmps44
    go_wp2_with fail
    go_ret
    exact ⟨rfl, rfl⟩

end Go.Proofs.Ytbeocehadnhmnaa
