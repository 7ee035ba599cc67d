/-
  packin's New, Parser.Step, Done, Held, End: their contracts.
-/
import Derived.Test.YtmcbdkhlbmhfeaaPackItem
namespace Go.Proofs.Ytmcbdkhlbmhfeaa
open Go.RowKit Go.Tru

/-- what Step gives: its parts, its error, and what it leaves -/
def PkStepped (w : World) (base b : Nat) (ov sv : Value) (t : List Ev × Pk) (r : Ending) (w' : World) : Prop :=
  ∃ v, r = .returned (.tuple #[v, .int .i64 t.2.c.e]) ∧ OwnsAny w' w.heap.size v t.1 ∧ ∃ ov' sv', PkIn w' base b ov' sv' t.2 ∧ Keeps (coBlks b ov sv) w w' ∧ ∀ i ∈ coBlks b ov' sv', i ∈ coBlks b ov sv ∨ w.heap.size ≤ i

set_option maxHeartbeats 1600000 in
theorem pstep_bad {N : Int} {w : World} {base b : Nat} {ov sv : Value} {p : Pk} (h : PkOk N w base b ov sv p) (x : Int) (he : ¬ p.c.e = 0) :
    Calls Try.prog 15 #[.pointer (some ⟨b, 0, none⟩), .int .u8 x] w (PkStepped w base b ov sv (p.step x)) := by
  rw [show p.step x = ([], p) by unfold Pk.step; rw [if_pos he]]
  obtain ⟨g0, g1, g2, g3, g4, g5, g6, g7⟩ := core_facts h.in_
  have hbl := h.in_.blk.lt
  have H := Lib.hid h
  have hne : (p.c.e != 0) = true := by simpa using he
  clear h he
  go_enter Try.func15, Try.ntmps15
  go_wp2_with fail
  go_quiet (fail)
  go_wp2_with fail
  go_ret2
  exact ⟨_, rfl, OwnsAny.nil _ _, ov, sv, CoreIn.keep0 H.out.in_ ((Keeps.refl _ _).drewN _), (Keeps.refl _ _).drewN _, fun i hi => Or.inl hi⟩

set_option maxHeartbeats 1600000 in
theorem pstep_byte {N : Int} {w : World} {base b : Nat} {ov sv : Value} {p : Pk} (h : PkOk N w base b ov sv p) (x : Int) (hx0 : 0 ≤ x) (hx1 : x ≤ 255) (he : p.c.e = 0) (hl : 0 < p.c.lack) :
    Calls Try.prog 15 #[.pointer (some ⟨b, 0, none⟩), .int .u8 x] w (PkStepped w base b ov sv (p.step x)) := by
  rw [show p.step x = p.put (p.c.byte x) by unfold Pk.step; rw [if_neg (by simp [he]), if_pos hl]]
  have hbyte := byte_any h.core x hx0 hx1 hl
  have hlk := lacks_any p.c w base b _ _ ov sv h.in_
  obtain ⟨g0, g1, g2, g3, g4, g5, g6, g7⟩ := core_facts h.in_
  have hbl := h.in_.blk.lt
  have hne : (p.c.e != 0) = false := by simp [he]
  have HB := Lib.hid hbyte
  have HL := Lib.hid hlk
  clear h he hbyte hlk
  go_enter Try.func15, Try.ntmps15
  go_wp2_with fail
  refine HL.out.mono ?_
  rintro e w' ⟨rfl, rfl⟩
  rw [decide_eq_true hl]
  go_wp2_with fail
  refine HB.out.mono ?_
  rintro e w2 hg
  have hg := CoreGives.pk hg
  obtain ⟨v, rfl, hown, ov2, sv2, hin2, hk2, hb2⟩ := hg
  obtain ⟨av, cv, rfl⟩ := hown.shape
  have HOWN := Lib.hid hown
  have HIN := Lib.hid hin2
  have HK := Lib.hid hk2
  have HB2 := Lib.hid hb2
  obtain ⟨g0, g1, g2, g3, g4, g5, g6, g7⟩ := core_facts hin2
  clear hown hin2 hk2 hb2
  go_wp2_with fail
  go_quiet (fail)
  go_wp2_with fail
  go_ret2
  exact ⟨_, rfl, ownsRow_keeps HOWN.out ((Keeps.refl [] _).drewN _) (by simp), ov2, sv2, CoreIn.keep0 HIN.out ((Keeps.refl _ _).drewN _), HK.out.drewN _, HB2.out⟩

set_option maxHeartbeats 1600000 in
theorem pstep_number {N : Int} {w : World} {base b : Nat} {ov sv : Value} {p : Pk} (h : PkOk N w base b ov sv p) (x : Int) (hx0 : 0 ≤ x) (hx1 : x ≤ 255) (he : p.c.e = 0) (hl : ¬ 0 < p.c.lack) (hk : p.kind ≠ 0) :
    Calls Try.prog 15 #[.pointer (some ⟨b, 0, none⟩), .int .u8 x] w (PkStepped w base b ov sv (p.step x)) := by
  rw [show p.step x = p.number x by unfold Pk.step; rw [if_neg (by simp [he]), if_neg hl, if_pos hk]]
  have hbyte := number_any h hk x hx0 hx1
  have hlk := lacks_any p.c w base b _ _ ov sv h.in_
  obtain ⟨g0, g1, g2, g3, g4, g5, g6, g7⟩ := core_facts h.in_
  obtain ⟨q0, q1, q2, q3⟩ := pk_facts h.in_
  have hbl := h.in_.blk.lt
  have hne : (p.c.e != 0) = false := by simp [he]
  have hnk : (p.kind != 0) = true := by simpa using hk
  have HB := Lib.hid hbyte
  have HL := Lib.hid hlk
  clear h he hbyte hlk hk
  go_enter Try.func15, Try.ntmps15
  go_wp2_with fail
  refine HL.out.mono ?_
  rintro e w' ⟨rfl, rfl⟩
  rw [decide_eq_false (show ¬ 0 < p.c.lack by omega)]
  go_wp2_with fail
  refine HB.out.mono ?_
  rintro e w2 hg
  obtain ⟨v, rfl, hown, ov2, sv2, hin2, hk2, hb2⟩ := hg
  obtain ⟨av, cv, rfl⟩ := hown.shape
  have HOWN := Lib.hid hown
  have HIN := Lib.hid hin2
  have HK := Lib.hid hk2
  have HB2 := Lib.hid hb2
  obtain ⟨g0, g1, g2, g3, g4, g5, g6, g7⟩ := core_facts hin2
  clear hown hin2 hk2 hb2
  go_wp2_with fail
  go_quiet (fail)
  go_wp2_with fail
  go_ret2
  exact ⟨_, rfl, ownsRow_keeps HOWN.out ((Keeps.refl [] _).drewN _) (by simp), ov2, sv2, CoreIn.keep0 HIN.out ((Keeps.refl _ _).drewN _), HK.out.drewN _, HB2.out⟩

set_option maxHeartbeats 1600000 in
theorem pstep_item {N : Int} {w : World} {base b : Nat} {ov sv : Value} {p : Pk} (h : PkOk N w base b ov sv p) (x : Int) (hx0 : 0 ≤ x) (hx1 : x ≤ 255) (he : p.c.e = 0) (hl : ¬ 0 < p.c.lack) (hk : p.kind = 0) :
    Calls Try.prog 15 #[.pointer (some ⟨b, 0, none⟩), .int .u8 x] w (PkStepped w base b ov sv (p.step x)) := by
  rw [show p.step x = p.item x by unfold Pk.step; rw [if_neg (by simp [he]), if_neg hl, if_neg (by simp [hk])]]
  have hbyte := item_any h x hx0 hx1
  have hlk := lacks_any p.c w base b _ _ ov sv h.in_
  obtain ⟨g0, g1, g2, g3, g4, g5, g6, g7⟩ := core_facts h.in_
  obtain ⟨q0, q1, q2, q3⟩ := pk_facts h.in_
  have hbl := h.in_.blk.lt
  have hne : (p.c.e != 0) = false := by simp [he]
  have hnk : (p.kind != 0) = false := by simp [hk]
  have HB := Lib.hid hbyte
  have HL := Lib.hid hlk
  clear h he hbyte hlk hk
  go_enter Try.func15, Try.ntmps15
  go_wp2_with fail
  refine HL.out.mono ?_
  rintro e w' ⟨rfl, rfl⟩
  rw [decide_eq_false (show ¬ 0 < p.c.lack by omega)]
  go_wp2_with fail
  refine HB.out.mono ?_
  rintro e w2 hg
  obtain ⟨v, rfl, hown, ov2, sv2, hin2, hk2, hb2⟩ := hg
  obtain ⟨av, cv, rfl⟩ := hown.shape
  have HOWN := Lib.hid hown
  have HIN := Lib.hid hin2
  have HK := Lib.hid hk2
  have HB2 := Lib.hid hb2
  obtain ⟨g0, g1, g2, g3, g4, g5, g6, g7⟩ := core_facts hin2
  clear hown hin2 hk2 hb2
  go_wp2_with fail
  go_quiet (fail)
  go_wp2_with fail
  go_ret2
  exact ⟨_, rfl, ownsRow_keeps HOWN.out ((Keeps.refl [] _).drewN _) (by simp), ov2, sv2, CoreIn.keep0 HIN.out ((Keeps.refl _ _).drewN _), HK.out.drewN _, HB2.out⟩

theorem pstep_any {N : Int} {w : World} {base b : Nat} {ov sv : Value} {p : Pk} (h : PkOk N w base b ov sv p) (x : Int) (hx0 : 0 ≤ x) (hx1 : x ≤ 255) :
    Calls Try.prog 15 #[.pointer (some ⟨b, 0, none⟩), .int .u8 x] w (PkStepped w base b ov sv (p.step x)) := by
  by_cases he : p.c.e = 0
  · by_cases hl : 0 < p.c.lack
    · exact pstep_byte h x hx0 hx1 he hl
    · by_cases hk : p.kind = 0
      · exact pstep_item h x hx0 hx1 he hl hk
      · exact pstep_number h x hx0 hx1 he hl hk
  · exact pstep_bad h x he

theorem pnew_no (d : Int) (hd : d < 1 ∨ 16 < d) (w : World) :
    Calls Try.prog 14 #[.int .i64 d] w fun r w' => r = .returned (.pointer none) ∧ w = w' := by
  rcases (show d < 1 ∨ ¬ d < 1 ∧ 16 < d by omega) with h | ⟨h, h2⟩
  all_goals
    clear hd
    go_enter Try.func14, Try.ntmps14
    go_wp2
    go_ret
    exact ⟨rfl, rfl⟩

theorem pnew_yes (d : Int) (hd : 1 ≤ d ∧ d ≤ 16) (w : World) :
    Calls Try.prog 14 #[.int .i64 d] w fun r w' => r = .returned (.pointer (some ⟨w.heap.size, 0, none⟩)) ∧ PkIn w' w.heap.size w.heap.size (.slice none 0 0) (.slice none 0 0) (Pk.new d) ∧ Keeps [] w w' := by
  have h1 : ¬ d < 1 := by omega
  have h2 : ¬ 16 < d := by omega
  clear hd
  go_enter Try.func14, Try.ntmps14
  go_wp2
  go_ret
  exact ⟨rfl, ⟨Has.new' w _ _ rfl, OwnsStk.nil _ _ _, OwnsBytes.nil _ _, by simp [blks_nil], by simp [blks_nil], by simp [blks_nil]⟩, (Keeps.refl _ _).alloc _⟩

theorem pend_any {w : World} {base b : Nat} {ov sv : Value} {p : Pk} (h : PkIn w base b ov sv p) :
    Calls Try.prog 26 #[.pointer (some ⟨b, 0, none⟩)] w fun r w' => r = .returned (.int .i64 p.c.over) ∧ w = w' := by
  have HO := Lib.hid (over_any p.c w base b _ _ ov sv h)
  have hbl := h.blk.lt
  clear h
  go_enter Try.func26, Try.ntmps26
  go_wp2_with fail
  refine HO.out.mono ?_
  rintro e w' ⟨rfl, rfl⟩
  go_wp2_with fail
  go_ret
  exact ⟨rfl, rfl⟩

theorem pheld_any {N : Int} {w : World} {base b : Nat} {ov sv : Value} {p : Pk} (h : PkOk N w base b ov sv p) :
    Calls Try.prog 16 #[.pointer (some ⟨b, 0, none⟩)] w fun r w' => r = .returned (.int .i64 p.c.held) ∧ Keeps [] w w' := by
  have HO := Lib.hid (heldCore_any p.c w base b _ _ ov sv h.in_ h.core.opens (by have := h.core.text; omega))
  have hbl := h.in_.blk.lt
  clear h
  go_enter Try.func16, Try.ntmps16
  go_wp2_with fail
  refine HO.out.mono ?_
  rintro e w' ⟨rfl, k⟩
  have K := Lib.hid k
  clear k
  go_wp2_with fail
  go_ret
  exact ⟨rfl, K.out⟩

theorem pdone_any {w : World} {base b : Nat} {ov sv : Value} {p : Pk} (h : PkIn w base b ov sv p) :
    Calls Try.prog 17 #[.pointer (some ⟨b, 0, none⟩)] w fun r w' => r = .returned (.bool (decide (p.c.e = 0) && p.c.done)) ∧ w = w' := by
  have HO := Lib.hid (coreDone_any p.c w base b _ _ ov sv h)
  obtain ⟨g0, g1, g2, g3, g4, g5, g6, g7⟩ := core_facts h
  have hbl := h.blk.lt
  clear h
  by_cases he : p.c.e = 0
  · have he' : (p.c.e == 0) = true := by simp [he]
    rw [decide_eq_true he]
    clear he
    go_enter Try.func17, Try.ntmps17
    go_wp2_with fail
    refine HO.out.mono ?_
    rintro e w' ⟨rfl, rfl⟩
    go_wp2_with fail
    go_ret
    exact ⟨ret_bool (by simp), rfl⟩
  · have he' : (p.c.e == 0) = false := by simp [he]
    rw [decide_eq_false he]
    clear he
    go_enter Try.func17, Try.ntmps17
    go_wp2_with fail
    go_ret
    exact ⟨ret_bool (by simp), rfl⟩
end Go.Proofs.Ytmcbdkhlbmhfeaa
