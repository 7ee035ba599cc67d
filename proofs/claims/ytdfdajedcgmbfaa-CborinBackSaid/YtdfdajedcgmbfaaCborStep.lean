/-
  cborin's New, Parser.Step, Done, Held, End: their contracts.
-/
import Derived.Test.YtdfdajedcgmbfaaCborItem
namespace Go.Proofs.Ytdfdajedcgmbfaa
open Go.RowKit Go.Tru

/-- what Step gives: its parts, its error, and what it leaves -/
def CbStepped (w : World) (base b : Nat) (ov sv : Value) (t : List Ev × Cb) (r : Ending) (w' : World) : Prop :=
  ∃ v, r = .returned (.tuple #[v, .int .i64 t.2.c.e]) ∧ OwnsAny w' w.heap.size v t.1 ∧ ∃ ov' sv', CbIn w' base b ov' sv' t.2 ∧ Keeps (coBlks b ov sv) w w' ∧ ∀ i ∈ coBlks b ov' sv', i ∈ coBlks b ov sv ∨ w.heap.size ≤ i

set_option maxHeartbeats 1600000 in
theorem cpstep_bad {N : Int} {w : World} {base b : Nat} {ov sv : Value} {p : Cb} (h : CbOk N w base b ov sv p) (x : Int) (he : ¬ p.c.e = 0) :
    Calls Try.prog 19 #[.pointer (some ⟨b, 0, none⟩), .int .u8 x] w (CbStepped w base b ov sv (p.step x)) := by
  rw [show p.step x = ([], p) by unfold Cb.step; rw [if_pos he]]
  obtain ⟨g0, g1, g2, g3, g4, g5, g6, g7⟩ := core_facts h.in_
  have hbl := h.in_.blk.lt
  have H := Lib.hid h
  have hne : (p.c.e != 0) = true := by simpa using he
  clear h he
  go_enter Try.func19, Try.ntmps19
  go_wp2_with fail
  go_quiet (fail)
  go_wp2_with fail
  go_ret2
  exact ⟨_, rfl, OwnsAny.nil _ _, ov, sv, CoreIn.keep0 H.out.in_ ((Keeps.refl _ _).drewN _), (Keeps.refl _ _).drewN _, fun i hi => Or.inl hi⟩

set_option maxHeartbeats 1600000 in
theorem cpstep_byte {N : Int} {w : World} {base b : Nat} {ov sv : Value} {p : Cb} (h : CbOk N w base b ov sv p) (x : Int) (hx0 : 0 ≤ x) (hx1 : x ≤ 255) (he : p.c.e = 0) (hl : 0 < p.c.lack) :
    Calls Try.prog 19 #[.pointer (some ⟨b, 0, none⟩), .int .u8 x] w (CbStepped w base b ov sv (p.step x)) := by
  rw [show p.step x = p.put (p.c.byte x) by unfold Cb.step; rw [if_neg (by simp [he]), if_pos hl]]
  have hbyte := byte_any h.core x hx0 hx1 hl
  have hlk := lacks_any p.c w base b _ _ ov sv h.in_
  obtain ⟨g0, g1, g2, g3, g4, g5, g6, g7⟩ := core_facts h.in_
  have hbl := h.in_.blk.lt
  have hne : (p.c.e != 0) = false := by simp [he]
  have HB := Lib.hid hbyte
  have HL := Lib.hid hlk
  clear h he hbyte hlk
  go_enter Try.func19, Try.ntmps19
  go_wp2_with fail
  refine HL.out.mono ?_
  rintro e w' ⟨rfl, rfl⟩
  rw [decide_eq_true hl]
  go_wp2_with fail
  refine HB.out.mono ?_
  rintro e w2 hg
  have hg := CoreGives.cb hg
  obtain ⟨v, rfl, hown, ov2, sv2, hin2, hk2, hb2⟩ := hg
  obtain ⟨av, cv, rfl⟩ := hown.shape
  have HOWN := Lib.hid hown
  have HIN := Lib.hid hin2
  have HK := Lib.hid hk2
  have HB2 := Lib.hid hb2
  obtain ⟨g0, g1, g2, g3, g4, g5, g6, g7⟩ := core_facts hin2
  clear hown hin2 hk2 hb2
  go_wp2_with fail
  go_quiet (fail)
  go_wp2_with fail
  go_ret2
  exact ⟨_, rfl, ownsRow_keeps HOWN.out ((Keeps.refl [] _).drewN _) (by simp), ov2, sv2, CoreIn.keep0 HIN.out ((Keeps.refl _ _).drewN _), HK.out.drewN _, HB2.out⟩

set_option maxHeartbeats 1600000 in
theorem cpstep_more {N : Int} {w : World} {base b : Nat} {ov sv : Value} {p : Cb} (h : CbOk N w base b ov sv p) (x : Int) (hx0 : 0 ≤ x) (hx1 : x ≤ 255) (he : p.c.e = 0) (hl : ¬ 0 < p.c.lack) (hbg : p.begun = true) :
    Calls Try.prog 19 #[.pointer (some ⟨b, 0, none⟩), .int .u8 x] w (CbStepped w base b ov sv (p.step x)) := by
  rw [show p.step x = p.more x by unfold Cb.step; rw [if_neg (by simp [he]), if_neg hl, if_pos hbg]]
  have hbyte := chead_more h.core (h.fit.head he hbg).1 (h.fit.head he hbg).2 x hx0 hx1
  have hlk := lacks_any p.c w base b _ _ ov sv h.in_
  obtain ⟨g0, g1, g2, g3, g4, g5, g6, g7⟩ := core_facts h.in_
  have q0 : w.cell? ⟨b, 19, none⟩ = some (.bool p.begun) := h.in_.blk.cell 19
  have hbl := h.in_.blk.lt
  have hne : (p.c.e != 0) = false := by simp [he]
  have HB := Lib.hid hbyte
  have HL := Lib.hid hlk
  rw [hbg] at q0
  clear h he hbyte hlk
  go_enter Try.func19, Try.ntmps19
  go_wp2_with fail
  refine HL.out.mono ?_
  rintro e w' ⟨rfl, rfl⟩
  rw [decide_eq_false (show ¬ 0 < p.c.lack by omega)]
  go_wp2_with fail
  refine HB.out.mono ?_
  rintro e w2 hg
  obtain ⟨v, rfl, hown, ov2, sv2, hin2, hk2, hb2⟩ := hg
  obtain ⟨av, cv, rfl⟩ := hown.shape
  have HOWN := Lib.hid hown
  have HIN := Lib.hid hin2
  have HK := Lib.hid hk2
  have HB2 := Lib.hid hb2
  obtain ⟨g0, g1, g2, g3, g4, g5, g6, g7⟩ := core_facts hin2
  clear hown hin2 hk2 hb2
  go_wp2_with fail
  go_quiet (fail)
  go_wp2_with fail
  go_ret2
  exact ⟨_, rfl, ownsRow_keeps HOWN.out ((Keeps.refl [] _).drewN _) (by simp), ov2, sv2, CoreIn.keep0 HIN.out ((Keeps.refl _ _).drewN _), HK.out.drewN _, HB2.out⟩

set_option maxHeartbeats 1600000 in
theorem cpstep_chunk {N : Int} {w : World} {base b : Nat} {ov sv : Value} {p : Cb} (h : CbOk N w base b ov sv p) (x : Int) (hx0 : 0 ≤ x) (hx1 : x ≤ 255) (he : p.c.e = 0) (hl : ¬ 0 < p.c.lack) (hbg : p.begun = false) (hch : p.c.chunks = true) :
    Calls Try.prog 19 #[.pointer (some ⟨b, 0, none⟩), .int .u8 x] w (CbStepped w base b ov sv (p.step x)) := by
  rw [show p.step x = p.chunk x by unfold Cb.step; rw [if_neg (by simp [he]), if_neg hl, if_neg (by simp [hbg]), if_pos hch]]
  have hbyte := cchunk_any h.core hbg (h.fit.none_ he hbg) x hx0 hx1
  have hlk := lacks_any p.c w base b _ _ ov sv h.in_
  obtain ⟨g0, g1, g2, g3, g4, g5, g6, g7⟩ := core_facts h.in_
  have q0 : w.cell? ⟨b, 19, none⟩ = some (.bool p.begun) := h.in_.blk.cell 19
  have hbl := h.in_.blk.lt
  have hne : (p.c.e != 0) = false := by simp [he]
  have HB := Lib.hid hbyte
  have HL := Lib.hid hlk
  rw [hbg] at q0
  rw [hch] at g5
  clear h he hbyte hlk
  go_enter Try.func19, Try.ntmps19
  go_wp2_with fail
  refine HL.out.mono ?_
  rintro e w' ⟨rfl, rfl⟩
  rw [decide_eq_false (show ¬ 0 < p.c.lack by omega)]
  go_wp2_with fail
  refine HB.out.mono ?_
  rintro e w2 hg
  obtain ⟨v, rfl, hown, ov2, sv2, hin2, hk2, hb2⟩ := hg
  obtain ⟨av, cv, rfl⟩ := hown.shape
  have HOWN := Lib.hid hown
  have HIN := Lib.hid hin2
  have HK := Lib.hid hk2
  have HB2 := Lib.hid hb2
  obtain ⟨g0, g1, g2, g3, g4, g5, g6, g7⟩ := core_facts hin2
  clear hown hin2 hk2 hb2
  go_wp2_with fail
  go_quiet (fail)
  go_wp2_with fail
  go_ret2
  exact ⟨_, rfl, ownsRow_keeps HOWN.out ((Keeps.refl [] _).drewN _) (by simp), ov2, sv2, CoreIn.keep0 HIN.out ((Keeps.refl _ _).drewN _), HK.out.drewN _, HB2.out⟩

set_option maxHeartbeats 1600000 in
theorem cpstep_item {N : Int} {w : World} {base b : Nat} {ov sv : Value} {p : Cb} (h : CbOk N w base b ov sv p) (x : Int) (hx0 : 0 ≤ x) (hx1 : x ≤ 255) (he : p.c.e = 0) (hl : ¬ 0 < p.c.lack) (hbg : p.begun = false) (hch : p.c.chunks = false) :
    Calls Try.prog 19 #[.pointer (some ⟨b, 0, none⟩), .int .u8 x] w (CbStepped w base b ov sv (p.step x)) := by
  rw [show p.step x = p.item x by unfold Cb.step; rw [if_neg (by simp [he]), if_neg hl, if_neg (by simp [hbg]), if_neg (by simp [hch])]]
  have hbyte := citem_any h.core hbg (h.fit.none_ he hbg) x hx0 hx1
  have hlk := lacks_any p.c w base b _ _ ov sv h.in_
  obtain ⟨g0, g1, g2, g3, g4, g5, g6, g7⟩ := core_facts h.in_
  have q0 : w.cell? ⟨b, 19, none⟩ = some (.bool p.begun) := h.in_.blk.cell 19
  have hbl := h.in_.blk.lt
  have hne : (p.c.e != 0) = false := by simp [he]
  have HB := Lib.hid hbyte
  have HL := Lib.hid hlk
  rw [hbg] at q0
  rw [hch] at g5
  clear h he hbyte hlk
  go_enter Try.func19, Try.ntmps19
  go_wp2_with fail
  refine HL.out.mono ?_
  rintro e w' ⟨rfl, rfl⟩
  rw [decide_eq_false (show ¬ 0 < p.c.lack by omega)]
  go_wp2_with fail
  refine HB.out.mono ?_
  rintro e w2 hg
  obtain ⟨v, rfl, hown, ov2, sv2, hin2, hk2, hb2⟩ := hg
  obtain ⟨av, cv, rfl⟩ := hown.shape
  have HOWN := Lib.hid hown
  have HIN := Lib.hid hin2
  have HK := Lib.hid hk2
  have HB2 := Lib.hid hb2
  obtain ⟨g0, g1, g2, g3, g4, g5, g6, g7⟩ := core_facts hin2
  clear hown hin2 hk2 hb2
  go_wp2_with fail
  go_quiet (fail)
  go_wp2_with fail
  go_ret2
  exact ⟨_, rfl, ownsRow_keeps HOWN.out ((Keeps.refl [] _).drewN _) (by simp), ov2, sv2, CoreIn.keep0 HIN.out ((Keeps.refl _ _).drewN _), HK.out.drewN _, HB2.out⟩

theorem cpstep_any {N : Int} {w : World} {base b : Nat} {ov sv : Value} {p : Cb} (h : CbOk N w base b ov sv p) (x : Int) (hx0 : 0 ≤ x) (hx1 : x ≤ 255) :
    Calls Try.prog 19 #[.pointer (some ⟨b, 0, none⟩), .int .u8 x] w (CbStepped w base b ov sv (p.step x)) := by
  by_cases he : p.c.e = 0
  · by_cases hl : 0 < p.c.lack
    · exact cpstep_byte h x hx0 hx1 he hl
    · cases hb : p.begun with
      | true => exact cpstep_more h x hx0 hx1 he hl hb
      | false =>
        cases hc : p.c.chunks with
        | true => exact cpstep_chunk h x hx0 hx1 he hl hb hc
        | false => exact cpstep_item h x hx0 hx1 he hl hb hc
  · exact cpstep_bad h x he

theorem cpnew_no (d : Int) (hd : d < 1 ∨ 16 < d) (w : World) :
    Calls Try.prog 18 #[.int .i64 d] w fun r w' => r = .returned (.pointer none) ∧ w = w' := by
  rcases (show d < 1 ∨ ¬ d < 1 ∧ 16 < d by omega) with h | ⟨h, h2⟩
  all_goals
    clear hd
    go_enter Try.func18, Try.ntmps18
    go_wp2
    go_ret
    exact ⟨rfl, rfl⟩

theorem cpnew_yes (d : Int) (hd : 1 ≤ d ∧ d ≤ 16) (w : World) :
    Calls Try.prog 18 #[.int .i64 d] w fun r w' => r = .returned (.pointer (some ⟨w.heap.size, 0, none⟩)) ∧ CbIn w' w.heap.size w.heap.size (.slice none 0 0) (.slice none 0 0) (Cb.new d) ∧ Keeps [] w w' := by
  have h1 : ¬ d < 1 := by omega
  have h2 : ¬ 16 < d := by omega
  clear hd
  go_enter Try.func18, Try.ntmps18
  go_wp2
  go_ret
  exact ⟨rfl, ⟨Has.new' w _ _ rfl, OwnsStk.nil _ _ _, OwnsBytes.nil _ _, by simp [blks_nil], by simp [blks_nil], by simp [blks_nil]⟩, (Keeps.refl _ _).alloc _⟩

theorem cpend_any {w : World} {base b : Nat} {ov sv : Value} {p : Cb} (h : CbIn w base b ov sv p) :
    Calls Try.prog 21 #[.pointer (some ⟨b, 0, none⟩)] w fun r w' => r = .returned (.int .i64 p.c.over) ∧ w = w' := by
  have HO := Lib.hid (over_any p.c w base b _ _ ov sv h)
  have hbl := h.blk.lt
  clear h
  go_enter Try.func21, Try.ntmps21
  go_wp2_with fail
  refine HO.out.mono ?_
  rintro e w' ⟨rfl, rfl⟩
  go_wp2_with fail
  go_ret
  exact ⟨rfl, rfl⟩


end Go.Proofs.Ytdfdajedcgmbfaa
