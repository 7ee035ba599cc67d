/-
  utf.Check: each method's contract.
-/
import Derived.Test.YtigajmfadfinpaaRows
import Derived.Test.YtigajmfadfinpaaChk
namespace Go.Proofs.Ytigajmfadfinpaa
open Go.RowKit Go.Tru

/-- a Check in the middle of a block: what the methods' contracts leave -/
def ChkPost (w : World) (b : Nat) (pre post : List Value) (t : TypeId) (c' : Chk) (w' : World) : Prop :=
  Has w' b (pre ++ c'.cells ++ post) t ∧ Keeps [b] w w'

theorem chkPost_of {w : World} {b : Nat} {pre post : List Value} {t : TypeId} {c' : Chk} {w' : World} (h : Has w' b (pre ++ c'.cells ++ post) t) (k : Keeps [b] w w') : ChkPost w b pre post t c' w' := ⟨h, k⟩

set_option maxHeartbeats 400000 in
theorem check_begin (b : Nat) (pre post : List Value) (t : TypeId) (c : Chk) (x : Int) (w : World) (h : Has w b (pre ++ c.cells ++ post) t) (off : Nat) (hoff : off = pre.length) (hx : 0 ≤ x) (_hx2 : x ≤ 255) :
    Calls Try.prog 18 #[.pointer (some ⟨b, off, none⟩), .int .u8 x] w fun e w' => e = .returned (.bool (leadOk x)) ∧ ChkPost w b pre post t (c.begin x) w' := by
  have H := Lib.hid h
  have g0 := mid_cell h hoff 0 (by simp [Chk.cells])
  have g1 := mid_cell h hoff 1 (by simp [Chk.cells])
  have g2 := mid_cell h hoff 2 (by simp [Chk.cells])
  have f0 := h.free off
  have f1 := h.free (off + 1)
  have f2 := h.free (off + 2)
  have HO := Lib.hid hoff
  simp only [Chk.cells, Nat.add_zero, List.getElem?_cons_zero, List.getElem?_cons_succ] at g0 g1 g2
  clear h hoff
  go_enter Try.func18, Try.ntmps18
  go_wp2
  all_goals go_ret
  all_goals
    go_tidy
    simp only [beq_iff_eq, beq_eq_false_iff_ne, ne_eq] at *
    refine ⟨ret_bool ?_, chkPost_of ?_ ?_⟩
    · simp only [leadOk]; simp; try omega
    · apply Has.conv
      · repeat with_reducible (first | exact H.out | apply mid_set (ho := HO.out) | apply mid_set0 (ho := HO.out))
        all_goals simp [Chk.cells]
      · simp [Chk.cells, Chk.begin, leadLack, leadLow, leadHigh]
        repeat' (first | omega | split | apply And.intro | intro _)
    · repeat with_reducible (first | exact Keeps.refl _ _ | refine Keeps.set1 ?_ _)

theorem chk_free {w : World} {b : Nat} {cs : List Value} {t : TypeId} (h : Has w b cs t) (off : Nat) : w.frozen? ⟨b, off, none⟩ = false ∧ w.frozen? ⟨b, off + 1, none⟩ = false ∧ w.frozen? ⟨b, off + 2, none⟩ = false ∧ w.frozen? ⟨b, off + 3, none⟩ = false :=
  ⟨h.free _, h.free _, h.free _, h.free _⟩

theorem chk_cell {w : World} {b : Nat} {pre post : List Value} {t : TypeId} {c : Chk} {off : Nat} (h : Has w b (pre ++ c.cells ++ post) t) (ho : off = pre.length) :
    w.cell? ⟨b, off, none⟩ = some (.int .i64 c.lack) ∧ w.cell? ⟨b, off + 1, none⟩ = some (.int .u8 c.low) ∧ w.cell? ⟨b, off + 2, none⟩ = some (.int .u8 c.high) ∧ w.cell? ⟨b, off + 3, none⟩ = some (.bool c.bad) :=
  ⟨mid_cell h ho 0 (by simp [Chk.cells]), mid_cell h ho 1 (by simp [Chk.cells]), mid_cell h ho 2 (by simp [Chk.cells]), mid_cell h ho 3 (by simp [Chk.cells])⟩

set_option maxHeartbeats 400000 in
theorem check_step (b : Nat) (pre post : List Value) (t : TypeId) (c : Chk) (x : Int) (w : World) (h : Has w b (pre ++ c.cells ++ post) t) (off : Nat) (hoff : off = pre.length) (hx : 0 ≤ x) (hx2 : x ≤ 255) (hf : c.Fit) :
    Calls Try.prog 6 #[.pointer (some ⟨b, off, none⟩), .int .u8 x] w fun e w' => e = .returned (.bool (!(c.step x).bad)) ∧ ChkPost w b pre post t (c.step x) w' := by
  have H := Lib.hid h
  obtain ⟨g0, g1, g2, g3⟩ := chk_cell h hoff
  obtain ⟨f0, f1, f2, f3⟩ := chk_free h off
  have HO := Lib.hid hoff
  obtain ⟨hf1, hf2⟩ := hf
  clear h hoff
  by_cases hb : c.bad = true
  · rw [hb] at g3
    go_enter Try.func6, Try.ntmps6
    go_wp2
    go_ret
    refine ⟨ret_bool (by simp [Chk.step, hb]), chkPost_of (H.out.conv (by simp [Chk.step, hb])) (Keeps.refl _ _)⟩
  simp only [Bool.not_eq_true] at hb
  by_cases hl : c.lack = 0
  · have hl' : (c.lack == 0) = true := by simp [hl]
    rw [hb] at g3
    have HL := Lib.hid hl
    have HB := Lib.hid hb
    clear hl hb
    go_enter Try.func6, Try.ntmps6
    go_wp2_with fail
    refine (check_begin b pre post t c x w H.out off HO.out hx hx2).mono ?_
    rintro e w1 ⟨rfl, h1, k1⟩
    have H1 := Lib.hid h1
    have K1 := Lib.hid k1
    have f4 := h1.free (off + 3)
    have g4 := mid_cell h1 HO.out 3 (by simp [Chk.cells])
    simp only [Chk.cells, List.getElem?_cons_zero, List.getElem?_cons_succ] at g4
    clear h1 k1
    go_wp2_with fail
    go_ret
    refine ⟨ret_bool ?_, chkPost_of ?_ ?_⟩
    · simp [Chk.step, HL.out, HB.out, Chk.begin]
    · refine (mid_set H1.out HO.out 3 _ (by simp [Chk.cells])).conv ?_
      simp [Chk.step, HL.out, HB.out, Chk.begin, Chk.cells]
    · exact K1.out.set1 _
  · have hl' : (c.lack == 0) = false := by simp [hl]
    rw [hb] at g3
    have HL := Lib.hid hl
    have HB := Lib.hid hb
    clear hb
    go_enter Try.func6, Try.ntmps6
    go_wp2
    all_goals go_ret
    all_goals
      go_tidy
      refine ⟨ret_bool ?_, chkPost_of ?_ ?_⟩
      · simp only [Chk.step, HL.out, HB.out, if_false, Bool.false_eq_true]
        repeat' (first | rfl | omega | split)
      · apply Has.conv
        · repeat with_reducible (first | exact H.out | apply mid_set (ho := HO.out) | apply mid_set0 (ho := HO.out))
          all_goals simp [Chk.cells]
        · simp [Chk.step, Chk.cells, HL.out, HB.out]
          repeat' (first | rfl | omega | split | apply And.intro | intro _)
      · repeat with_reducible (first | exact Keeps.refl _ _ | refine Keeps.set1 ?_ _)

/-- a nil Check may take nothing -/
theorem check_step_nil (x : Int) (w : World) : Calls Try.prog 6 #[.pointer none, .int .u8 x] w fun e w' => e = .returned (.bool false) ∧ w = w' := by
  go_enter Try.func6, Try.ntmps6
  go_wp2
  go_ret
  exact ⟨rfl, rfl⟩

theorem check_bad (b : Nat) (pre post : List Value) (t : TypeId) (c : Chk) (w : World) (h : Has w b (pre ++ c.cells ++ post) t) (off : Nat) (hoff : off = pre.length) :
    Calls Try.prog 7 #[.pointer (some ⟨b, off, none⟩)] w fun e w' => e = .returned (.bool c.bad) ∧ w = w' := by
  obtain ⟨g0, g1, g2, g3⟩ := chk_cell h hoff
  clear h hoff
  go_enter Try.func7, Try.ntmps7
  go_wp2
  go_ret
  exact ⟨rfl, rfl⟩

theorem check_bad_nil (w : World) : Calls Try.prog 7 #[.pointer none] w fun e w' => e = .returned (.bool true) ∧ w = w' := by
  go_enter Try.func7, Try.ntmps7
  go_wp2
  go_ret
  exact ⟨rfl, rfl⟩

theorem check_whole (b : Nat) (pre post : List Value) (t : TypeId) (c : Chk) (w : World) (h : Has w b (pre ++ c.cells ++ post) t) (off : Nat) (hoff : off = pre.length) :
    Calls Try.prog 8 #[.pointer (some ⟨b, off, none⟩)] w fun e w' => e = .returned (.bool c.whole) ∧ w = w' := by
  obtain ⟨g0, g1, g2, g3⟩ := chk_cell h hoff
  clear h hoff
  cases hb : c.bad <;> rw [hb] at g3
  · go_enter Try.func8, Try.ntmps8
    go_wp2
    go_ret
    exact ⟨ret_bool (by rw [Bool.eq_iff_iff]; simp [Chk.whole, hb]), rfl⟩
  · go_enter Try.func8, Try.ntmps8
    go_wp2
    go_ret
    exact ⟨ret_bool (by simp [Chk.whole, hb]), rfl⟩

theorem check_whole_nil (w : World) : Calls Try.prog 8 #[.pointer none] w fun e w' => e = .returned (.bool false) ∧ w = w' := by
  go_enter Try.func8, Try.ntmps8
  go_wp2
  go_ret
  exact ⟨rfl, rfl⟩
end Go.Proofs.Ytigajmfadfinpaa
