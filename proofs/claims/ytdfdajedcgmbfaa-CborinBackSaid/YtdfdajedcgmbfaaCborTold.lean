/-
  cborin.Parser's head: its contract.
-/
import Derived.Test.YtdfdajedcgmbfaaCborHead
namespace Go.Tru
def cbRest (p : Cb) : List Value := p.h.cells ++ [.bool p.begun]
/-- Block b is a Parser. -/
def CbIn (w : World) (base b : Nat) (ov sv : Value) (p : Cb) : Prop := CoreIn w base b 75 (cbRest p) ov sv p.c

/-- what a method of the Parser gives: its parts, and what it leaves -/
def CbGives (w : World) (base b : Nat) (ov sv : Value) (t : List Ev × Cb) (r : Ending) (w' : World) : Prop :=
  ∃ v, r = .returned v ∧ OwnsAny w' w.heap.size v t.1 ∧ ∃ ov' sv', CbIn w' base b ov' sv' t.2 ∧ Keeps (coBlks b ov sv) w w' ∧ ∀ i ∈ coBlks b ov' sv', i ∈ coBlks b ov sv ∨ w.heap.size ≤ i

theorem CbGives.trans {w w1 w2 : World} {base b : Nat} {ov sv ov1 sv1 : Value} {t : List Ev × Cb} {r : Ending} (kp : Keeps (coBlks b ov sv) w w1) (hs : ∀ i ∈ coBlks b ov1 sv1, i ∈ coBlks b ov sv ∨ w.heap.size ≤ i) (h : CbGives w1 base b ov1 sv1 t r w2) : CbGives w base b ov sv t r w2 := by
  obtain ⟨v, h1, h2, ov2, sv2, h3, h4, h5⟩ := h
  refine ⟨v, h1, ownsRow_base h2 kp.size, ov2, sv2, h3, kp.trans' h4 hs, fun i hi => ?_⟩
  rcases h5 i hi with h | h
  · exact hs i h
  · exact Or.inr (Nat.le_trans kp.size h)
end Go.Tru
namespace Go.Proofs.Ytdfdajedcgmbfaa
open Go.RowKit Go.Tru

theorem CoreOk.keep0 {N : Int} {w W : World} {base b : Nat} {T : TypeId} {rest : List Value} {ov sv : Value} {k : Core} (h : CoreOk N w base b T rest ov sv k) (kp : Keeps [] w W) : CoreOk N W base b T rest ov sv k :=
  ⟨h.in_.keep0 kp, h.fit, h.big, Nat.le_trans h.base_ kp.size⟩

theorem CoreGives.cb {w w' : World} {base b : Nat} {ov sv : Value} {p : Cb} {t : List Ev × Core} {r : Ending} (h : CoreGives w base b 75 (cbRest p) ov sv t r w') : CbGives w base b ov sv (p.put t) r w' := by
  obtain ⟨v, h1, h2, h3⟩ := h
  exact ⟨v, h1, h2, h3⟩

set_option maxHeartbeats 3200000 in
set_option maxRecDepth 100000 in
theorem chead_wait {N : Int} {w : World} {base b : Nat} {ov sv : Value} {p : Cb} (hok : CoreOk N w base b 75 (cbRest p) ov sv p.c) (x : Int) {h' : Hd} {en : Bool} {er : Int}
    (hst : Calls Try.prog 38 #[.pointer (some ⟨b, 12, none⟩), .int .u8 x] w fun r w' => r = .returned (.tuple #[.bool en, .int .i64 er]) ∧ HdPost w base b 75 [.bool p.begun] ov sv p.c h' w') (hen : en = false) (her : er = 0) :
    Calls Try.prog 29 #[.pointer (some ⟨b, 0, none⟩), .int .u8 x] w (CbGives w base b ov sv ([], { p with h := h', begun := true })) := by
  subst hen her
  have HOK := Lib.hid hok
  have HST := Lib.hid hst
  have hbl := hok.in_.blk.lt
  clear hok hst
  go_enter Try.func29, Try.ntmps29
  go_wp2_with fail
  refine HST.out.mono ?_
  rintro e w1 ⟨rfl, hc1, k1⟩
  have hc2 := hc1.putRest (i := 7) (u := .bool true)
  have k2 := k1.setIn (i := 19) (coBlks_self _ _ _) (.bool true)
  have hc3 : CoreIn (w1.setCell ⟨b, 19, none⟩ (.bool true)) base b 75 (h'.cells ++ [.bool true]) ov sv p.c := hc2
  have g19 : w1.cell? ⟨b, 19, none⟩ = some (.bool p.begun) := hc1.blk.cell 19
  have f19 := hc1.blk.free 19
  have hbl1 := hc1.blk.lt
  have HC3 := Lib.hid hc3
  have K2 := Lib.hid k2
  obtain ⟨w2, hw2⟩ : ∃ w2, w1.setCell ⟨b, 19, none⟩ (.bool true) = w2 := ⟨_, rfl⟩
  rw [hw2] at HC3 K2
  have HW2 := Lib.hid hw2
  have hbl2 := HC3.out.blk.lt
  clear hc1 k1 hc2 k2 hc3 hw2
  go_wp2_with fail
  rw [HW2.out]
  go_ret
  exact ⟨_, rfl, OwnsAny.nil _ _, ov, sv, HC3.out, K2.out, fun i hi => Or.inl hi⟩

set_option maxHeartbeats 3200000 in
set_option maxRecDepth 100000 in
theorem chead_bad {N : Int} {w : World} {base b : Nat} {ov sv : Value} {p : Cb} (hok : CoreOk N w base b 75 (cbRest p) ov sv p.c) (x : Int) {h' : Hd} {en : Bool} {er : Int}
    (hst : Calls Try.prog 38 #[.pointer (some ⟨b, 12, none⟩), .int .u8 x] w fun r w' => r = .returned (.tuple #[.bool en, .int .i64 er]) ∧ HdPost w base b 75 [.bool p.begun] ov sv p.c h' w') (hen : en = false) (her : er = 2) :
    Calls Try.prog 29 #[.pointer (some ⟨b, 0, none⟩), .int .u8 x] w (CbGives w base b ov sv (Cb.put { p with h := h', begun := true } (p.c.fail 2))) := by
  subst hen her
  have HOK := Lib.hid hok
  have HST := Lib.hid hst
  have hbl := hok.in_.blk.lt
  clear hok hst
  go_enter Try.func29, Try.ntmps29
  go_wp2_with fail
  refine HST.out.mono ?_
  rintro e w1 ⟨rfl, hc1, k1⟩
  have hc2 := hc1.putRest (i := 7) (u := .bool true)
  have k2 := k1.setIn (i := 19) (coBlks_self _ _ _) (.bool true)
  have hc3 : CoreIn (w1.setCell ⟨b, 19, none⟩ (.bool true)) base b 75 (h'.cells ++ [.bool true]) ov sv p.c := hc2
  have g19 : w1.cell? ⟨b, 19, none⟩ = some (.bool p.begun) := hc1.blk.cell 19
  have f19 := hc1.blk.free 19
  have hbl1 := hc1.blk.lt
  have HC3 := Lib.hid hc3
  have K2 := Lib.hid k2
  obtain ⟨w2, hw2⟩ : ∃ w2, w1.setCell ⟨b, 19, none⟩ (.bool true) = w2 := ⟨_, rfl⟩
  rw [hw2] at HC3 K2
  have HW2 := Lib.hid hw2
  have hbl2 := HC3.out.blk.lt
  clear hc1 k1 hc2 k2 hc3 hw2
  have hf := fail_gives 2 p.c w2 base b 75 _ ov sv HC3.out
  have HF := Lib.hid hf
  clear hf
  go_wp2_with fail
  rw [HW2.out]
  refine HF.out.mono ?_
  rintro e w3 hg
  obtain ⟨v, rfl, hown, hpost⟩ := CoreGives.cb (p := { p with h := h', begun := true }) hg
  obtain ⟨av, cv, rfl⟩ := hown.shape
  have HOWN := Lib.hid hown
  have HPOST := Lib.hid hpost
  clear hown hpost hg
  go_wp2_with fail
  go_ret
  exact CbGives.trans K2.out (fun i hi => Or.inl hi) ⟨_, rfl, HOWN.out, HPOST.out⟩

set_option maxHeartbeats 3200000 in
set_option maxRecDepth 100000 in
theorem chead_int0t {N : Int} {w : World} {base b : Nat} {ov sv : Value} {p : Cb} (hok : CoreOk N w base b 75 (cbRest p) ov sv p.c) (x : Int) {h' : Hd} {en : Bool} {er : Int}
    (hst : Calls Try.prog 38 #[.pointer (some ⟨b, 12, none⟩), .int .u8 x] w fun r w' => r = .returned (.tuple #[.bool en, .int .i64 er]) ∧ HdPost w base b 75 [.bool p.begun] ov sv p.c h' w') (hen : en = true) (her : er = 0) (he : h'.e = 0) (hend : h'.end_ = true) (hv0 : 0 ≤ h'.v) (hv1 : h'.v ≤ 18446744073709551615) (hm : h'.major = 0) (hw : h'.open_ = true) :
    Calls Try.prog 29 #[.pointer (some ⟨b, 0, none⟩), .int .u8 x] w (CbGives w base b ov sv (Cb.told { p with h := Hd.zero, begun := false } 0 h'.v true)) := by
  subst hen her
  have := hv0
  have := hv1
  rw [show Cb.told { p with h := Hd.zero, begun := false } 0 h'.v true = Cb.put { p with h := Hd.zero, begun := false } (p.c.value (evInt false h'.v)) from by unfold Cb.told; rw [if_pos (by decide)]; rfl]
  have HOK := Lib.hid hok
  have HST := Lib.hid hst
  have hbl := hok.in_.blk.lt
  clear hok hst
  go_enter Try.func29, Try.ntmps29
  go_wp2_with fail
  refine HST.out.mono ?_
  rintro e w1 ⟨rfl, hc1, k1⟩
  have hc2 := hc1.putRest (i := 7) (u := .bool false)
  have k2 := k1.setIn (i := 19) (coBlks_self _ _ _) (.bool false)
  have hc3 : CoreIn (w1.setCell ⟨b, 19, none⟩ (.bool false)) base b 75 (h'.cells ++ [.bool false]) ov sv p.c := hc2
  have g19 : w1.cell? ⟨b, 19, none⟩ = some (.bool p.begun) := hc1.blk.cell 19
  have f19 := hc1.blk.free 19
  have hbl1 := hc1.blk.lt
  have HC3 := Lib.hid hc3
  have K2 := Lib.hid k2
  obtain ⟨w2, hw2⟩ : ∃ w2, w1.setCell ⟨b, 19, none⟩ (.bool false) = w2 := ⟨_, rfl⟩
  rw [hw2] at HC3 K2
  have HW2 := Lib.hid hw2
  have hbl2 := HC3.out.blk.lt
  clear hc1 k1 hc2 k2 hc3 hw2
  have HMJ := Lib.hid (fun W (k : Keeps [] w2 W) => hmajor_any (HC3.out.keep0 k) he)
  have HVA := Lib.hid (fun W (k : Keeps [] w2 W) => hvalue_any (HC3.out.keep0 k) he hend)
  have HOP := Lib.hid (fun W (k : Keeps [] w2 W) => hopen_any (HC3.out.keep0 k) he)
  have HCL := Lib.hid (fun W (k : Keeps [] w2 W) => hclear_any (HC3.out.keep0 k))
  rw [hm] at HMJ
  rw [hw] at HOP
  clear he hend hm hw
  go_wp2_with fail
  rw [HW2.out]
  go_region_with (first | (go_at_call 39; refine (HMJ.out _ ((Keeps.refl _ _).drew)).mono ?_; rintro e w' ⟨rfl, rfl⟩) | (go_at_call 40; refine (HVA.out _ ((Keeps.refl _ _).drew)).mono ?_; rintro e w' ⟨rfl, rfl⟩) | (go_at_call 41; refine (HOP.out _ ((Keeps.refl _ _).drew)).mono ?_; rintro e w' ⟨rfl, rfl⟩))
  all_goals
    go_wp2_with fail
    refine (HCL.out _ ((Keeps.refl _ _).drew)).mono ?_
    rintro e w4 ⟨⟨vv, rfl⟩, hc4, k4⟩
    have K4 := Lib.hid (K2.out.trans (((Keeps.refl _ w2).drew).trans k4))
    have HOK4 := Lib.hid (show CoreOk N w4 base b 75 (cbRest { p with h := Hd.zero, begun := false }) ov sv p.c from ⟨hc4, HOK.out.fit, HOK.out.big, Nat.le_trans HOK.out.base_ K4.out.size⟩)
    have hbl4 := hc4.blk.lt
    clear hc4 k4
    go_wp2_with fail
    refine ((part_int false h'.v ▸ value_ok HOK4.out (evInt false h'.v) : Calls Try.prog _ _ _ _)).mono ?_
    rintro e w5 hg
    obtain ⟨v, rfl, hown, hpost⟩ := CoreGives.cb hg
    obtain ⟨av, cv, rfl⟩ := hown.shape
    have HOWN := Lib.hid hown
    have HPOST := Lib.hid hpost
    clear hown hpost hg
    go_wp2_with fail
    go_ret
    exact CbGives.trans K4.out (fun i hi => Or.inl hi) ⟨_, rfl, HOWN.out, HPOST.out⟩

set_option maxHeartbeats 3200000 in
set_option maxRecDepth 100000 in
theorem chead_int0f {N : Int} {w : World} {base b : Nat} {ov sv : Value} {p : Cb} (hok : CoreOk N w base b 75 (cbRest p) ov sv p.c) (x : Int) {h' : Hd} {en : Bool} {er : Int}
    (hst : Calls Try.prog 38 #[.pointer (some ⟨b, 12, none⟩), .int .u8 x] w fun r w' => r = .returned (.tuple #[.bool en, .int .i64 er]) ∧ HdPost w base b 75 [.bool p.begun] ov sv p.c h' w') (hen : en = true) (her : er = 0) (he : h'.e = 0) (hend : h'.end_ = true) (hv0 : 0 ≤ h'.v) (hv1 : h'.v ≤ 18446744073709551615) (hm : h'.major = 0) (hw : h'.open_ = false) :
    Calls Try.prog 29 #[.pointer (some ⟨b, 0, none⟩), .int .u8 x] w (CbGives w base b ov sv (Cb.told { p with h := Hd.zero, begun := false } 0 h'.v false)) := by
  subst hen her
  have := hv0
  have := hv1
  rw [show Cb.told { p with h := Hd.zero, begun := false } 0 h'.v false = Cb.put { p with h := Hd.zero, begun := false } (p.c.value (evInt false h'.v)) from by unfold Cb.told; rw [if_pos (by decide)]; rfl]
  have HOK := Lib.hid hok
  have HST := Lib.hid hst
  have hbl := hok.in_.blk.lt
  clear hok hst
  go_enter Try.func29, Try.ntmps29
  go_wp2_with fail
  refine HST.out.mono ?_
  rintro e w1 ⟨rfl, hc1, k1⟩
  have hc2 := hc1.putRest (i := 7) (u := .bool false)
  have k2 := k1.setIn (i := 19) (coBlks_self _ _ _) (.bool false)
  have hc3 : CoreIn (w1.setCell ⟨b, 19, none⟩ (.bool false)) base b 75 (h'.cells ++ [.bool false]) ov sv p.c := hc2
  have g19 : w1.cell? ⟨b, 19, none⟩ = some (.bool p.begun) := hc1.blk.cell 19
  have f19 := hc1.blk.free 19
  have hbl1 := hc1.blk.lt
  have HC3 := Lib.hid hc3
  have K2 := Lib.hid k2
  obtain ⟨w2, hw2⟩ : ∃ w2, w1.setCell ⟨b, 19, none⟩ (.bool false) = w2 := ⟨_, rfl⟩
  rw [hw2] at HC3 K2
  have HW2 := Lib.hid hw2
  have hbl2 := HC3.out.blk.lt
  clear hc1 k1 hc2 k2 hc3 hw2
  have HMJ := Lib.hid (fun W (k : Keeps [] w2 W) => hmajor_any (HC3.out.keep0 k) he)
  have HVA := Lib.hid (fun W (k : Keeps [] w2 W) => hvalue_any (HC3.out.keep0 k) he hend)
  have HOP := Lib.hid (fun W (k : Keeps [] w2 W) => hopen_any (HC3.out.keep0 k) he)
  have HCL := Lib.hid (fun W (k : Keeps [] w2 W) => hclear_any (HC3.out.keep0 k))
  rw [hm] at HMJ
  rw [hw] at HOP
  clear he hend hm hw
  go_wp2_with fail
  rw [HW2.out]
  go_region_with (first | (go_at_call 39; refine (HMJ.out _ ((Keeps.refl _ _).drew)).mono ?_; rintro e w' ⟨rfl, rfl⟩) | (go_at_call 40; refine (HVA.out _ ((Keeps.refl _ _).drew)).mono ?_; rintro e w' ⟨rfl, rfl⟩) | (go_at_call 41; refine (HOP.out _ ((Keeps.refl _ _).drew)).mono ?_; rintro e w' ⟨rfl, rfl⟩))
  all_goals
    go_wp2_with fail
    refine (HCL.out _ ((Keeps.refl _ _).drew)).mono ?_
    rintro e w4 ⟨⟨vv, rfl⟩, hc4, k4⟩
    have K4 := Lib.hid (K2.out.trans (((Keeps.refl _ w2).drew).trans k4))
    have HOK4 := Lib.hid (show CoreOk N w4 base b 75 (cbRest { p with h := Hd.zero, begun := false }) ov sv p.c from ⟨hc4, HOK.out.fit, HOK.out.big, Nat.le_trans HOK.out.base_ K4.out.size⟩)
    have hbl4 := hc4.blk.lt
    clear hc4 k4
    go_wp2_with fail
    refine ((part_int false h'.v ▸ value_ok HOK4.out (evInt false h'.v) : Calls Try.prog _ _ _ _)).mono ?_
    rintro e w5 hg
    obtain ⟨v, rfl, hown, hpost⟩ := CoreGives.cb hg
    obtain ⟨av, cv, rfl⟩ := hown.shape
    have HOWN := Lib.hid hown
    have HPOST := Lib.hid hpost
    clear hown hpost hg
    go_wp2_with fail
    go_ret
    exact CbGives.trans K4.out (fun i hi => Or.inl hi) ⟨_, rfl, HOWN.out, HPOST.out⟩

set_option maxHeartbeats 3200000 in
set_option maxRecDepth 100000 in
theorem chead_int1t {N : Int} {w : World} {base b : Nat} {ov sv : Value} {p : Cb} (hok : CoreOk N w base b 75 (cbRest p) ov sv p.c) (x : Int) {h' : Hd} {en : Bool} {er : Int}
    (hst : Calls Try.prog 38 #[.pointer (some ⟨b, 12, none⟩), .int .u8 x] w fun r w' => r = .returned (.tuple #[.bool en, .int .i64 er]) ∧ HdPost w base b 75 [.bool p.begun] ov sv p.c h' w') (hen : en = true) (her : er = 0) (he : h'.e = 0) (hend : h'.end_ = true) (hv0 : 0 ≤ h'.v) (hv1 : h'.v ≤ 18446744073709551615) (hm : h'.major = 1) (hw : h'.open_ = true) :
    Calls Try.prog 29 #[.pointer (some ⟨b, 0, none⟩), .int .u8 x] w (CbGives w base b ov sv (Cb.told { p with h := Hd.zero, begun := false } 1 h'.v true)) := by
  subst hen her
  have := hv0
  have := hv1
  rw [show Cb.told { p with h := Hd.zero, begun := false } 1 h'.v true = Cb.put { p with h := Hd.zero, begun := false } (p.c.value (evInt true h'.v)) from by unfold Cb.told; rw [if_pos (by decide)]; rfl]
  have HOK := Lib.hid hok
  have HST := Lib.hid hst
  have hbl := hok.in_.blk.lt
  clear hok hst
  go_enter Try.func29, Try.ntmps29
  go_wp2_with fail
  refine HST.out.mono ?_
  rintro e w1 ⟨rfl, hc1, k1⟩
  have hc2 := hc1.putRest (i := 7) (u := .bool false)
  have k2 := k1.setIn (i := 19) (coBlks_self _ _ _) (.bool false)
  have hc3 : CoreIn (w1.setCell ⟨b, 19, none⟩ (.bool false)) base b 75 (h'.cells ++ [.bool false]) ov sv p.c := hc2
  have g19 : w1.cell? ⟨b, 19, none⟩ = some (.bool p.begun) := hc1.blk.cell 19
  have f19 := hc1.blk.free 19
  have hbl1 := hc1.blk.lt
  have HC3 := Lib.hid hc3
  have K2 := Lib.hid k2
  obtain ⟨w2, hw2⟩ : ∃ w2, w1.setCell ⟨b, 19, none⟩ (.bool false) = w2 := ⟨_, rfl⟩
  rw [hw2] at HC3 K2
  have HW2 := Lib.hid hw2
  have hbl2 := HC3.out.blk.lt
  clear hc1 k1 hc2 k2 hc3 hw2
  have HMJ := Lib.hid (fun W (k : Keeps [] w2 W) => hmajor_any (HC3.out.keep0 k) he)
  have HVA := Lib.hid (fun W (k : Keeps [] w2 W) => hvalue_any (HC3.out.keep0 k) he hend)
  have HOP := Lib.hid (fun W (k : Keeps [] w2 W) => hopen_any (HC3.out.keep0 k) he)
  have HCL := Lib.hid (fun W (k : Keeps [] w2 W) => hclear_any (HC3.out.keep0 k))
  rw [hm] at HMJ
  rw [hw] at HOP
  clear he hend hm hw
  go_wp2_with fail
  rw [HW2.out]
  go_region_with (first | (go_at_call 39; refine (HMJ.out _ ((Keeps.refl _ _).drew)).mono ?_; rintro e w' ⟨rfl, rfl⟩) | (go_at_call 40; refine (HVA.out _ ((Keeps.refl _ _).drew)).mono ?_; rintro e w' ⟨rfl, rfl⟩) | (go_at_call 41; refine (HOP.out _ ((Keeps.refl _ _).drew)).mono ?_; rintro e w' ⟨rfl, rfl⟩))
  all_goals
    go_wp2_with fail
    refine (HCL.out _ ((Keeps.refl _ _).drew)).mono ?_
    rintro e w4 ⟨⟨vv, rfl⟩, hc4, k4⟩
    have K4 := Lib.hid (K2.out.trans (((Keeps.refl _ w2).drew).trans k4))
    have HOK4 := Lib.hid (show CoreOk N w4 base b 75 (cbRest { p with h := Hd.zero, begun := false }) ov sv p.c from ⟨hc4, HOK.out.fit, HOK.out.big, Nat.le_trans HOK.out.base_ K4.out.size⟩)
    have hbl4 := hc4.blk.lt
    clear hc4 k4
    go_wp2_with fail
    refine ((part_int true h'.v ▸ value_ok HOK4.out (evInt true h'.v) : Calls Try.prog _ _ _ _)).mono ?_
    rintro e w5 hg
    obtain ⟨v, rfl, hown, hpost⟩ := CoreGives.cb hg
    obtain ⟨av, cv, rfl⟩ := hown.shape
    have HOWN := Lib.hid hown
    have HPOST := Lib.hid hpost
    clear hown hpost hg
    go_wp2_with fail
    go_ret
    exact CbGives.trans K4.out (fun i hi => Or.inl hi) ⟨_, rfl, HOWN.out, HPOST.out⟩

set_option maxHeartbeats 3200000 in
set_option maxRecDepth 100000 in
theorem chead_int1f {N : Int} {w : World} {base b : Nat} {ov sv : Value} {p : Cb} (hok : CoreOk N w base b 75 (cbRest p) ov sv p.c) (x : Int) {h' : Hd} {en : Bool} {er : Int}
    (hst : Calls Try.prog 38 #[.pointer (some ⟨b, 12, none⟩), .int .u8 x] w fun r w' => r = .returned (.tuple #[.bool en, .int .i64 er]) ∧ HdPost w base b 75 [.bool p.begun] ov sv p.c h' w') (hen : en = true) (her : er = 0) (he : h'.e = 0) (hend : h'.end_ = true) (hv0 : 0 ≤ h'.v) (hv1 : h'.v ≤ 18446744073709551615) (hm : h'.major = 1) (hw : h'.open_ = false) :
    Calls Try.prog 29 #[.pointer (some ⟨b, 0, none⟩), .int .u8 x] w (CbGives w base b ov sv (Cb.told { p with h := Hd.zero, begun := false } 1 h'.v false)) := by
  subst hen her
  have := hv0
  have := hv1
  rw [show Cb.told { p with h := Hd.zero, begun := false } 1 h'.v false = Cb.put { p with h := Hd.zero, begun := false } (p.c.value (evInt true h'.v)) from by unfold Cb.told; rw [if_pos (by decide)]; rfl]
  have HOK := Lib.hid hok
  have HST := Lib.hid hst
  have hbl := hok.in_.blk.lt
  clear hok hst
  go_enter Try.func29, Try.ntmps29
  go_wp2_with fail
  refine HST.out.mono ?_
  rintro e w1 ⟨rfl, hc1, k1⟩
  have hc2 := hc1.putRest (i := 7) (u := .bool false)
  have k2 := k1.setIn (i := 19) (coBlks_self _ _ _) (.bool false)
  have hc3 : CoreIn (w1.setCell ⟨b, 19, none⟩ (.bool false)) base b 75 (h'.cells ++ [.bool false]) ov sv p.c := hc2
  have g19 : w1.cell? ⟨b, 19, none⟩ = some (.bool p.begun) := hc1.blk.cell 19
  have f19 := hc1.blk.free 19
  have hbl1 := hc1.blk.lt
  have HC3 := Lib.hid hc3
  have K2 := Lib.hid k2
  obtain ⟨w2, hw2⟩ : ∃ w2, w1.setCell ⟨b, 19, none⟩ (.bool false) = w2 := ⟨_, rfl⟩
  rw [hw2] at HC3 K2
  have HW2 := Lib.hid hw2
  have hbl2 := HC3.out.blk.lt
  clear hc1 k1 hc2 k2 hc3 hw2
  have HMJ := Lib.hid (fun W (k : Keeps [] w2 W) => hmajor_any (HC3.out.keep0 k) he)
  have HVA := Lib.hid (fun W (k : Keeps [] w2 W) => hvalue_any (HC3.out.keep0 k) he hend)
  have HOP := Lib.hid (fun W (k : Keeps [] w2 W) => hopen_any (HC3.out.keep0 k) he)
  have HCL := Lib.hid (fun W (k : Keeps [] w2 W) => hclear_any (HC3.out.keep0 k))
  rw [hm] at HMJ
  rw [hw] at HOP
  clear he hend hm hw
  go_wp2_with fail
  rw [HW2.out]
  go_region_with (first | (go_at_call 39; refine (HMJ.out _ ((Keeps.refl _ _).drew)).mono ?_; rintro e w' ⟨rfl, rfl⟩) | (go_at_call 40; refine (HVA.out _ ((Keeps.refl _ _).drew)).mono ?_; rintro e w' ⟨rfl, rfl⟩) | (go_at_call 41; refine (HOP.out _ ((Keeps.refl _ _).drew)).mono ?_; rintro e w' ⟨rfl, rfl⟩))
  all_goals
    go_wp2_with fail
    refine (HCL.out _ ((Keeps.refl _ _).drew)).mono ?_
    rintro e w4 ⟨⟨vv, rfl⟩, hc4, k4⟩
    have K4 := Lib.hid (K2.out.trans (((Keeps.refl _ w2).drew).trans k4))
    have HOK4 := Lib.hid (show CoreOk N w4 base b 75 (cbRest { p with h := Hd.zero, begun := false }) ov sv p.c from ⟨hc4, HOK.out.fit, HOK.out.big, Nat.le_trans HOK.out.base_ K4.out.size⟩)
    have hbl4 := hc4.blk.lt
    clear hc4 k4
    go_wp2_with fail
    refine ((part_int true h'.v ▸ value_ok HOK4.out (evInt true h'.v) : Calls Try.prog _ _ _ _)).mono ?_
    rintro e w5 hg
    obtain ⟨v, rfl, hown, hpost⟩ := CoreGives.cb hg
    obtain ⟨av, cv, rfl⟩ := hown.shape
    have HOWN := Lib.hid hown
    have HPOST := Lib.hid hpost
    clear hown hpost hg
    go_wp2_with fail
    go_ret
    exact CbGives.trans K4.out (fun i hi => Or.inl hi) ⟨_, rfl, HOWN.out, HPOST.out⟩

set_option maxHeartbeats 3200000 in
set_option maxRecDepth 100000 in
theorem chead_str2t {N : Int} {w : World} {base b : Nat} {ov sv : Value} {p : Cb} (hok : CoreOk N w base b 75 (cbRest p) ov sv p.c) (x : Int) {h' : Hd} {en : Bool} {er : Int}
    (hst : Calls Try.prog 38 #[.pointer (some ⟨b, 12, none⟩), .int .u8 x] w fun r w' => r = .returned (.tuple #[.bool en, .int .i64 er]) ∧ HdPost w base b 75 [.bool p.begun] ov sv p.c h' w') (hen : en = true) (her : er = 0) (he : h'.e = 0) (hend : h'.end_ = true) (hv0 : 0 ≤ h'.v) (hv1 : h'.v ≤ 18446744073709551615) (hm : h'.major = 2) (hw : h'.open_ = true) :
    Calls Try.prog 29 #[.pointer (some ⟨b, 0, none⟩), .int .u8 x] w (CbGives w base b ov sv (Cb.told { p with h := Hd.zero, begun := false } 2 h'.v true)) := by
  subst hen her
  have := hv0
  have := hv1
  rw [show Cb.told { p with h := Hd.zero, begun := false } 2 h'.v true = ([], { ({ p with h := Hd.zero, begun := false } : Cb) with c := { p.c with chunks := true, word := false } }) from by unfold Cb.told; rw [if_neg (by decide), if_pos (by decide)]; rfl]
  have HOK := Lib.hid hok
  have HST := Lib.hid hst
  have hbl := hok.in_.blk.lt
  clear hok hst
  go_enter Try.func29, Try.ntmps29
  go_wp2_with fail
  refine HST.out.mono ?_
  rintro e w1 ⟨rfl, hc1, k1⟩
  have hc2 := hc1.putRest (i := 7) (u := .bool false)
  have k2 := k1.setIn (i := 19) (coBlks_self _ _ _) (.bool false)
  have hc3 : CoreIn (w1.setCell ⟨b, 19, none⟩ (.bool false)) base b 75 (h'.cells ++ [.bool false]) ov sv p.c := hc2
  have g19 : w1.cell? ⟨b, 19, none⟩ = some (.bool p.begun) := hc1.blk.cell 19
  have f19 := hc1.blk.free 19
  have hbl1 := hc1.blk.lt
  have HC3 := Lib.hid hc3
  have K2 := Lib.hid k2
  obtain ⟨w2, hw2⟩ : ∃ w2, w1.setCell ⟨b, 19, none⟩ (.bool false) = w2 := ⟨_, rfl⟩
  rw [hw2] at HC3 K2
  have HW2 := Lib.hid hw2
  have hbl2 := HC3.out.blk.lt
  clear hc1 k1 hc2 k2 hc3 hw2
  have HMJ := Lib.hid (fun W (k : Keeps [] w2 W) => hmajor_any (HC3.out.keep0 k) he)
  have HVA := Lib.hid (fun W (k : Keeps [] w2 W) => hvalue_any (HC3.out.keep0 k) he hend)
  have HOP := Lib.hid (fun W (k : Keeps [] w2 W) => hopen_any (HC3.out.keep0 k) he)
  have HCL := Lib.hid (fun W (k : Keeps [] w2 W) => hclear_any (HC3.out.keep0 k))
  rw [hm] at HMJ
  rw [hw] at HOP
  clear he hend hm hw
  go_wp2_with fail
  rw [HW2.out]
  go_region_with (first | (go_at_call 39; refine (HMJ.out _ ((Keeps.refl _ _).drew)).mono ?_; rintro e w' ⟨rfl, rfl⟩) | (go_at_call 40; refine (HVA.out _ ((Keeps.refl _ _).drew)).mono ?_; rintro e w' ⟨rfl, rfl⟩) | (go_at_call 41; refine (HOP.out _ ((Keeps.refl _ _).drew)).mono ?_; rintro e w' ⟨rfl, rfl⟩))
  all_goals
    go_wp2_with fail
    refine (HCL.out _ ((Keeps.refl _ _).drew)).mono ?_
    rintro e w4 ⟨⟨vv, rfl⟩, hc4, k4⟩
    have K4 := Lib.hid (K2.out.trans (((Keeps.refl _ w2).drew).trans k4))
    have HOK4 := Lib.hid (show CoreOk N w4 base b 75 (cbRest { p with h := Hd.zero, begun := false }) ov sv p.c from ⟨hc4, HOK.out.fit, HOK.out.big, Nat.le_trans HOK.out.base_ K4.out.size⟩)
    have hbl4 := hc4.blk.lt
    clear hc4 k4
    obtain ⟨g0, g1, g2, g3, g4, g5, g6, g7⟩ := core_facts HOK4.out.in_
    obtain ⟨f1, f2, f3, f4, f5, f6, f7, hbl5⟩ := core_free HOK4.out.in_
    go_wp2_with fail
    go_ret
    refine ⟨_, rfl, OwnsAny.nil _ _, ov, sv, ?_, (K4.out.setIn (coBlks_self _ _ _) _).setIn (coBlks_self _ _ _) _, fun i hi => Or.inl hi⟩
    exact (HOK4.out.in_.put (i := 5) (u := .bool true) (k' := { p.c with chunks := true }) (by omega) rfl rfl rfl).put (i := 4) (u := .bool false) (k' := { p.c with chunks := true, word := false }) (by omega) rfl rfl rfl

set_option maxHeartbeats 3200000 in
set_option maxRecDepth 100000 in
theorem chead_str2f {N : Int} {w : World} {base b : Nat} {ov sv : Value} {p : Cb} (hok : CoreOk N w base b 75 (cbRest p) ov sv p.c) (x : Int) {h' : Hd} {en : Bool} {er : Int}
    (hst : Calls Try.prog 38 #[.pointer (some ⟨b, 12, none⟩), .int .u8 x] w fun r w' => r = .returned (.tuple #[.bool en, .int .i64 er]) ∧ HdPost w base b 75 [.bool p.begun] ov sv p.c h' w') (hen : en = true) (her : er = 0) (he : h'.e = 0) (hend : h'.end_ = true) (hv0 : 0 ≤ h'.v) (hv1 : h'.v ≤ 18446744073709551615) (hm : h'.major = 2) (hw : h'.open_ = false) :
    Calls Try.prog 29 #[.pointer (some ⟨b, 0, none⟩), .int .u8 x] w (CbGives w base b ov sv (Cb.told { p with h := Hd.zero, begun := false } 2 h'.v false)) := by
  subst hen her
  have := hv0
  have := hv1
  rw [show Cb.told { p with h := Hd.zero, begun := false } 2 h'.v false = Cb.put { p with h := Hd.zero, begun := false } (p.c.length false h'.v) from by unfold Cb.told; rw [if_neg (by decide), if_pos (by decide)]; rfl]
  have HOK := Lib.hid hok
  have HST := Lib.hid hst
  have hbl := hok.in_.blk.lt
  clear hok hst
  go_enter Try.func29, Try.ntmps29
  go_wp2_with fail
  refine HST.out.mono ?_
  rintro e w1 ⟨rfl, hc1, k1⟩
  have hc2 := hc1.putRest (i := 7) (u := .bool false)
  have k2 := k1.setIn (i := 19) (coBlks_self _ _ _) (.bool false)
  have hc3 : CoreIn (w1.setCell ⟨b, 19, none⟩ (.bool false)) base b 75 (h'.cells ++ [.bool false]) ov sv p.c := hc2
  have g19 : w1.cell? ⟨b, 19, none⟩ = some (.bool p.begun) := hc1.blk.cell 19
  have f19 := hc1.blk.free 19
  have hbl1 := hc1.blk.lt
  have HC3 := Lib.hid hc3
  have K2 := Lib.hid k2
  obtain ⟨w2, hw2⟩ : ∃ w2, w1.setCell ⟨b, 19, none⟩ (.bool false) = w2 := ⟨_, rfl⟩
  rw [hw2] at HC3 K2
  have HW2 := Lib.hid hw2
  have hbl2 := HC3.out.blk.lt
  clear hc1 k1 hc2 k2 hc3 hw2
  have HMJ := Lib.hid (fun W (k : Keeps [] w2 W) => hmajor_any (HC3.out.keep0 k) he)
  have HVA := Lib.hid (fun W (k : Keeps [] w2 W) => hvalue_any (HC3.out.keep0 k) he hend)
  have HOP := Lib.hid (fun W (k : Keeps [] w2 W) => hopen_any (HC3.out.keep0 k) he)
  have HCL := Lib.hid (fun W (k : Keeps [] w2 W) => hclear_any (HC3.out.keep0 k))
  rw [hm] at HMJ
  rw [hw] at HOP
  clear he hend hm hw
  go_wp2_with fail
  rw [HW2.out]
  go_region_with (first | (go_at_call 39; refine (HMJ.out _ ((Keeps.refl _ _).drew)).mono ?_; rintro e w' ⟨rfl, rfl⟩) | (go_at_call 40; refine (HVA.out _ ((Keeps.refl _ _).drew)).mono ?_; rintro e w' ⟨rfl, rfl⟩) | (go_at_call 41; refine (HOP.out _ ((Keeps.refl _ _).drew)).mono ?_; rintro e w' ⟨rfl, rfl⟩))
  all_goals
    go_wp2_with fail
    refine (HCL.out _ ((Keeps.refl _ _).drew)).mono ?_
    rintro e w4 ⟨⟨vv, rfl⟩, hc4, k4⟩
    have K4 := Lib.hid (K2.out.trans (((Keeps.refl _ w2).drew).trans k4))
    have HOK4 := Lib.hid (show CoreOk N w4 base b 75 (cbRest { p with h := Hd.zero, begun := false }) ov sv p.c from ⟨hc4, HOK.out.fit, HOK.out.big, Nat.le_trans HOK.out.base_ K4.out.size⟩)
    have hbl4 := hc4.blk.lt
    clear hc4 k4
    go_wp2_with fail
    refine (length_any HOK4.out false h'.v hv0 hv1).mono ?_
    rintro e w5 hg
    obtain ⟨v, rfl, hown, hpost⟩ := CoreGives.cb hg
    obtain ⟨av, cv, rfl⟩ := hown.shape
    have HOWN := Lib.hid hown
    have HPOST := Lib.hid hpost
    clear hown hpost hg
    go_wp2_with fail
    go_ret
    exact CbGives.trans K4.out (fun i hi => Or.inl hi) ⟨_, rfl, HOWN.out, HPOST.out⟩

set_option maxHeartbeats 3200000 in
set_option maxRecDepth 100000 in
theorem chead_str3t {N : Int} {w : World} {base b : Nat} {ov sv : Value} {p : Cb} (hok : CoreOk N w base b 75 (cbRest p) ov sv p.c) (x : Int) {h' : Hd} {en : Bool} {er : Int}
    (hst : Calls Try.prog 38 #[.pointer (some ⟨b, 12, none⟩), .int .u8 x] w fun r w' => r = .returned (.tuple #[.bool en, .int .i64 er]) ∧ HdPost w base b 75 [.bool p.begun] ov sv p.c h' w') (hen : en = true) (her : er = 0) (he : h'.e = 0) (hend : h'.end_ = true) (hv0 : 0 ≤ h'.v) (hv1 : h'.v ≤ 18446744073709551615) (hm : h'.major = 3) (hw : h'.open_ = true) :
    Calls Try.prog 29 #[.pointer (some ⟨b, 0, none⟩), .int .u8 x] w (CbGives w base b ov sv (Cb.told { p with h := Hd.zero, begun := false } 3 h'.v true)) := by
  subst hen her
  have := hv0
  have := hv1
  rw [show Cb.told { p with h := Hd.zero, begun := false } 3 h'.v true = ([], { ({ p with h := Hd.zero, begun := false } : Cb) with c := { p.c with chunks := true, word := true } }) from by unfold Cb.told; rw [if_neg (by decide), if_pos (by decide)]; rfl]
  have HOK := Lib.hid hok
  have HST := Lib.hid hst
  have hbl := hok.in_.blk.lt
  clear hok hst
  go_enter Try.func29, Try.ntmps29
  go_wp2_with fail
  refine HST.out.mono ?_
  rintro e w1 ⟨rfl, hc1, k1⟩
  have hc2 := hc1.putRest (i := 7) (u := .bool false)
  have k2 := k1.setIn (i := 19) (coBlks_self _ _ _) (.bool false)
  have hc3 : CoreIn (w1.setCell ⟨b, 19, none⟩ (.bool false)) base b 75 (h'.cells ++ [.bool false]) ov sv p.c := hc2
  have g19 : w1.cell? ⟨b, 19, none⟩ = some (.bool p.begun) := hc1.blk.cell 19
  have f19 := hc1.blk.free 19
  have hbl1 := hc1.blk.lt
  have HC3 := Lib.hid hc3
  have K2 := Lib.hid k2
  obtain ⟨w2, hw2⟩ : ∃ w2, w1.setCell ⟨b, 19, none⟩ (.bool false) = w2 := ⟨_, rfl⟩
  rw [hw2] at HC3 K2
  have HW2 := Lib.hid hw2
  have hbl2 := HC3.out.blk.lt
  clear hc1 k1 hc2 k2 hc3 hw2
  have HMJ := Lib.hid (fun W (k : Keeps [] w2 W) => hmajor_any (HC3.out.keep0 k) he)
  have HVA := Lib.hid (fun W (k : Keeps [] w2 W) => hvalue_any (HC3.out.keep0 k) he hend)
  have HOP := Lib.hid (fun W (k : Keeps [] w2 W) => hopen_any (HC3.out.keep0 k) he)
  have HCL := Lib.hid (fun W (k : Keeps [] w2 W) => hclear_any (HC3.out.keep0 k))
  rw [hm] at HMJ
  rw [hw] at HOP
  clear he hend hm hw
  go_wp2_with fail
  rw [HW2.out]
  go_region_with (first | (go_at_call 39; refine (HMJ.out _ ((Keeps.refl _ _).drew)).mono ?_; rintro e w' ⟨rfl, rfl⟩) | (go_at_call 40; refine (HVA.out _ ((Keeps.refl _ _).drew)).mono ?_; rintro e w' ⟨rfl, rfl⟩) | (go_at_call 41; refine (HOP.out _ ((Keeps.refl _ _).drew)).mono ?_; rintro e w' ⟨rfl, rfl⟩))
  all_goals
    go_wp2_with fail
    refine (HCL.out _ ((Keeps.refl _ _).drew)).mono ?_
    rintro e w4 ⟨⟨vv, rfl⟩, hc4, k4⟩
    have K4 := Lib.hid (K2.out.trans (((Keeps.refl _ w2).drew).trans k4))
    have HOK4 := Lib.hid (show CoreOk N w4 base b 75 (cbRest { p with h := Hd.zero, begun := false }) ov sv p.c from ⟨hc4, HOK.out.fit, HOK.out.big, Nat.le_trans HOK.out.base_ K4.out.size⟩)
    have hbl4 := hc4.blk.lt
    clear hc4 k4
    obtain ⟨g0, g1, g2, g3, g4, g5, g6, g7⟩ := core_facts HOK4.out.in_
    obtain ⟨f1, f2, f3, f4, f5, f6, f7, hbl5⟩ := core_free HOK4.out.in_
    go_wp2_with fail
    go_ret
    refine ⟨_, rfl, OwnsAny.nil _ _, ov, sv, ?_, (K4.out.setIn (coBlks_self _ _ _) _).setIn (coBlks_self _ _ _) _, fun i hi => Or.inl hi⟩
    exact (HOK4.out.in_.put (i := 5) (u := .bool true) (k' := { p.c with chunks := true }) (by omega) rfl rfl rfl).put (i := 4) (u := .bool true) (k' := { p.c with chunks := true, word := true }) (by omega) rfl rfl rfl

set_option maxHeartbeats 3200000 in
set_option maxRecDepth 100000 in
theorem chead_str3f {N : Int} {w : World} {base b : Nat} {ov sv : Value} {p : Cb} (hok : CoreOk N w base b 75 (cbRest p) ov sv p.c) (x : Int) {h' : Hd} {en : Bool} {er : Int}
    (hst : Calls Try.prog 38 #[.pointer (some ⟨b, 12, none⟩), .int .u8 x] w fun r w' => r = .returned (.tuple #[.bool en, .int .i64 er]) ∧ HdPost w base b 75 [.bool p.begun] ov sv p.c h' w') (hen : en = true) (her : er = 0) (he : h'.e = 0) (hend : h'.end_ = true) (hv0 : 0 ≤ h'.v) (hv1 : h'.v ≤ 18446744073709551615) (hm : h'.major = 3) (hw : h'.open_ = false) :
    Calls Try.prog 29 #[.pointer (some ⟨b, 0, none⟩), .int .u8 x] w (CbGives w base b ov sv (Cb.told { p with h := Hd.zero, begun := false } 3 h'.v false)) := by
  subst hen her
  have := hv0
  have := hv1
  rw [show Cb.told { p with h := Hd.zero, begun := false } 3 h'.v false = Cb.put { p with h := Hd.zero, begun := false } (p.c.length true h'.v) from by unfold Cb.told; rw [if_neg (by decide), if_pos (by decide)]; rfl]
  have HOK := Lib.hid hok
  have HST := Lib.hid hst
  have hbl := hok.in_.blk.lt
  clear hok hst
  go_enter Try.func29, Try.ntmps29
  go_wp2_with fail
  refine HST.out.mono ?_
  rintro e w1 ⟨rfl, hc1, k1⟩
  have hc2 := hc1.putRest (i := 7) (u := .bool false)
  have k2 := k1.setIn (i := 19) (coBlks_self _ _ _) (.bool false)
  have hc3 : CoreIn (w1.setCell ⟨b, 19, none⟩ (.bool false)) base b 75 (h'.cells ++ [.bool false]) ov sv p.c := hc2
  have g19 : w1.cell? ⟨b, 19, none⟩ = some (.bool p.begun) := hc1.blk.cell 19
  have f19 := hc1.blk.free 19
  have hbl1 := hc1.blk.lt
  have HC3 := Lib.hid hc3
  have K2 := Lib.hid k2
  obtain ⟨w2, hw2⟩ : ∃ w2, w1.setCell ⟨b, 19, none⟩ (.bool false) = w2 := ⟨_, rfl⟩
  rw [hw2] at HC3 K2
  have HW2 := Lib.hid hw2
  have hbl2 := HC3.out.blk.lt
  clear hc1 k1 hc2 k2 hc3 hw2
  have HMJ := Lib.hid (fun W (k : Keeps [] w2 W) => hmajor_any (HC3.out.keep0 k) he)
  have HVA := Lib.hid (fun W (k : Keeps [] w2 W) => hvalue_any (HC3.out.keep0 k) he hend)
  have HOP := Lib.hid (fun W (k : Keeps [] w2 W) => hopen_any (HC3.out.keep0 k) he)
  have HCL := Lib.hid (fun W (k : Keeps [] w2 W) => hclear_any (HC3.out.keep0 k))
  rw [hm] at HMJ
  rw [hw] at HOP
  clear he hend hm hw
  go_wp2_with fail
  rw [HW2.out]
  go_region_with (first | (go_at_call 39; refine (HMJ.out _ ((Keeps.refl _ _).drew)).mono ?_; rintro e w' ⟨rfl, rfl⟩) | (go_at_call 40; refine (HVA.out _ ((Keeps.refl _ _).drew)).mono ?_; rintro e w' ⟨rfl, rfl⟩) | (go_at_call 41; refine (HOP.out _ ((Keeps.refl _ _).drew)).mono ?_; rintro e w' ⟨rfl, rfl⟩))
  all_goals
    go_wp2_with fail
    refine (HCL.out _ ((Keeps.refl _ _).drew)).mono ?_
    rintro e w4 ⟨⟨vv, rfl⟩, hc4, k4⟩
    have K4 := Lib.hid (K2.out.trans (((Keeps.refl _ w2).drew).trans k4))
    have HOK4 := Lib.hid (show CoreOk N w4 base b 75 (cbRest { p with h := Hd.zero, begun := false }) ov sv p.c from ⟨hc4, HOK.out.fit, HOK.out.big, Nat.le_trans HOK.out.base_ K4.out.size⟩)
    have hbl4 := hc4.blk.lt
    clear hc4 k4
    go_wp2_with fail
    refine (length_any HOK4.out true h'.v hv0 hv1).mono ?_
    rintro e w5 hg
    obtain ⟨v, rfl, hown, hpost⟩ := CoreGives.cb hg
    obtain ⟨av, cv, rfl⟩ := hown.shape
    have HOWN := Lib.hid hown
    have HPOST := Lib.hid hpost
    clear hown hpost hg
    go_wp2_with fail
    go_ret
    exact CbGives.trans K4.out (fun i hi => Or.inl hi) ⟨_, rfl, HOWN.out, HPOST.out⟩

set_option maxHeartbeats 3200000 in
set_option maxRecDepth 100000 in
theorem chead_box4t {N : Int} {w : World} {base b : Nat} {ov sv : Value} {p : Cb} (hok : CoreOk N w base b 75 (cbRest p) ov sv p.c) (x : Int) {h' : Hd} {en : Bool} {er : Int}
    (hst : Calls Try.prog 38 #[.pointer (some ⟨b, 12, none⟩), .int .u8 x] w fun r w' => r = .returned (.tuple #[.bool en, .int .i64 er]) ∧ HdPost w base b 75 [.bool p.begun] ov sv p.c h' w') (hen : en = true) (her : er = 0) (he : h'.e = 0) (hend : h'.end_ = true) (hv0 : 0 ≤ h'.v) (hv1 : h'.v ≤ 18446744073709551615) (hm : h'.major = 4) (hw : h'.open_ = true) :
    Calls Try.prog 29 #[.pointer (some ⟨b, 0, none⟩), .int .u8 x] w (CbGives w base b ov sv (Cb.told { p with h := Hd.zero, begun := false } 4 h'.v true)) := by
  subst hen her
  have := hv0
  have := hv1
  rw [show Cb.told { p with h := Hd.zero, begun := false } 4 h'.v true = Cb.put { p with h := Hd.zero, begun := false } (p.c.begin false (-1)) from by unfold Cb.told; rw [if_neg (by decide), if_neg (by decide), if_pos rfl]; rfl]
  have HOK := Lib.hid hok
  have HST := Lib.hid hst
  have hbl := hok.in_.blk.lt
  clear hok hst
  go_enter Try.func29, Try.ntmps29
  go_wp2_with fail
  refine HST.out.mono ?_
  rintro e w1 ⟨rfl, hc1, k1⟩
  have hc2 := hc1.putRest (i := 7) (u := .bool false)
  have k2 := k1.setIn (i := 19) (coBlks_self _ _ _) (.bool false)
  have hc3 : CoreIn (w1.setCell ⟨b, 19, none⟩ (.bool false)) base b 75 (h'.cells ++ [.bool false]) ov sv p.c := hc2
  have g19 : w1.cell? ⟨b, 19, none⟩ = some (.bool p.begun) := hc1.blk.cell 19
  have f19 := hc1.blk.free 19
  have hbl1 := hc1.blk.lt
  have HC3 := Lib.hid hc3
  have K2 := Lib.hid k2
  obtain ⟨w2, hw2⟩ : ∃ w2, w1.setCell ⟨b, 19, none⟩ (.bool false) = w2 := ⟨_, rfl⟩
  rw [hw2] at HC3 K2
  have HW2 := Lib.hid hw2
  have hbl2 := HC3.out.blk.lt
  clear hc1 k1 hc2 k2 hc3 hw2
  have HMJ := Lib.hid (fun W (k : Keeps [] w2 W) => hmajor_any (HC3.out.keep0 k) he)
  have HVA := Lib.hid (fun W (k : Keeps [] w2 W) => hvalue_any (HC3.out.keep0 k) he hend)
  have HOP := Lib.hid (fun W (k : Keeps [] w2 W) => hopen_any (HC3.out.keep0 k) he)
  have HCL := Lib.hid (fun W (k : Keeps [] w2 W) => hclear_any (HC3.out.keep0 k))
  rw [hm] at HMJ
  rw [hw] at HOP
  clear he hend hm hw
  go_wp2_with fail
  rw [HW2.out]
  go_region_with (first | (go_at_call 39; refine (HMJ.out _ ((Keeps.refl _ _).drew)).mono ?_; rintro e w' ⟨rfl, rfl⟩) | (go_at_call 40; refine (HVA.out _ ((Keeps.refl _ _).drew)).mono ?_; rintro e w' ⟨rfl, rfl⟩) | (go_at_call 41; refine (HOP.out _ ((Keeps.refl _ _).drew)).mono ?_; rintro e w' ⟨rfl, rfl⟩))
  all_goals
    go_wp2_with fail
    refine (HCL.out _ ((Keeps.refl _ _).drew)).mono ?_
    rintro e w4 ⟨⟨vv, rfl⟩, hc4, k4⟩
    have K4 := Lib.hid (K2.out.trans (((Keeps.refl _ w2).drew).trans k4))
    have HOK4 := Lib.hid (show CoreOk N w4 base b 75 (cbRest { p with h := Hd.zero, begun := false }) ov sv p.c from ⟨hc4, HOK.out.fit, HOK.out.big, Nat.le_trans HOK.out.base_ K4.out.size⟩)
    have hbl4 := hc4.blk.lt
    clear hc4 k4
    go_wp2_with fail
    refine (begin_any HOK4.out false (-1)).mono ?_
    rintro e w5 hg
    obtain ⟨v, rfl, hown, hpost⟩ := CoreGives.cb hg
    obtain ⟨av, cv, rfl⟩ := hown.shape
    have HOWN := Lib.hid hown
    have HPOST := Lib.hid hpost
    clear hown hpost hg
    go_wp2_with fail
    go_ret
    exact CbGives.trans K4.out (fun i hi => Or.inl hi) ⟨_, rfl, HOWN.out, HPOST.out⟩

set_option maxHeartbeats 3200000 in
set_option maxRecDepth 100000 in
theorem chead_box4g {N : Int} {w : World} {base b : Nat} {ov sv : Value} {p : Cb} (hok : CoreOk N w base b 75 (cbRest p) ov sv p.c) (x : Int) {h' : Hd} {en : Bool} {er : Int}
    (hst : Calls Try.prog 38 #[.pointer (some ⟨b, 12, none⟩), .int .u8 x] w fun r w' => r = .returned (.tuple #[.bool en, .int .i64 er]) ∧ HdPost w base b 75 [.bool p.begun] ov sv p.c h' w') (hen : en = true) (her : er = 0) (he : h'.e = 0) (hend : h'.end_ = true) (hv0 : 0 ≤ h'.v) (hv1 : h'.v ≤ 18446744073709551615) (hm : h'.major = 4) (hw : h'.open_ = false) (hg : 1000000 < h'.v) :
    Calls Try.prog 29 #[.pointer (some ⟨b, 0, none⟩), .int .u8 x] w (CbGives w base b ov sv (Cb.told { p with h := Hd.zero, begun := false } 4 h'.v false)) := by
  subst hen her
  have := hv0
  have := hv1
  rw [show Cb.told { p with h := Hd.zero, begun := false } 4 h'.v false = Cb.put { p with h := Hd.zero, begun := false } (p.c.fail 7) from by unfold Cb.told; rw [if_neg (by decide), if_neg (by decide), if_neg (by decide), if_pos hg]]
  have HOK := Lib.hid hok
  have HST := Lib.hid hst
  have hbl := hok.in_.blk.lt
  clear hok hst
  go_enter Try.func29, Try.ntmps29
  go_wp2_with fail
  refine HST.out.mono ?_
  rintro e w1 ⟨rfl, hc1, k1⟩
  have hc2 := hc1.putRest (i := 7) (u := .bool false)
  have k2 := k1.setIn (i := 19) (coBlks_self _ _ _) (.bool false)
  have hc3 : CoreIn (w1.setCell ⟨b, 19, none⟩ (.bool false)) base b 75 (h'.cells ++ [.bool false]) ov sv p.c := hc2
  have g19 : w1.cell? ⟨b, 19, none⟩ = some (.bool p.begun) := hc1.blk.cell 19
  have f19 := hc1.blk.free 19
  have hbl1 := hc1.blk.lt
  have HC3 := Lib.hid hc3
  have K2 := Lib.hid k2
  obtain ⟨w2, hw2⟩ : ∃ w2, w1.setCell ⟨b, 19, none⟩ (.bool false) = w2 := ⟨_, rfl⟩
  rw [hw2] at HC3 K2
  have HW2 := Lib.hid hw2
  have hbl2 := HC3.out.blk.lt
  clear hc1 k1 hc2 k2 hc3 hw2
  have HMJ := Lib.hid (fun W (k : Keeps [] w2 W) => hmajor_any (HC3.out.keep0 k) he)
  have HVA := Lib.hid (fun W (k : Keeps [] w2 W) => hvalue_any (HC3.out.keep0 k) he hend)
  have HOP := Lib.hid (fun W (k : Keeps [] w2 W) => hopen_any (HC3.out.keep0 k) he)
  have HCL := Lib.hid (fun W (k : Keeps [] w2 W) => hclear_any (HC3.out.keep0 k))
  rw [hm] at HMJ
  rw [hw] at HOP
  clear he hend hm hw
  go_wp2_with fail
  rw [HW2.out]
  go_region_with (first | (go_at_call 39; refine (HMJ.out _ ((Keeps.refl _ _).drew)).mono ?_; rintro e w' ⟨rfl, rfl⟩) | (go_at_call 40; refine (HVA.out _ ((Keeps.refl _ _).drew)).mono ?_; rintro e w' ⟨rfl, rfl⟩) | (go_at_call 41; refine (HOP.out _ ((Keeps.refl _ _).drew)).mono ?_; rintro e w' ⟨rfl, rfl⟩))
  all_goals
    go_wp2_with fail
    refine (HCL.out _ ((Keeps.refl _ _).drew)).mono ?_
    rintro e w4 ⟨⟨vv, rfl⟩, hc4, k4⟩
    have K4 := Lib.hid (K2.out.trans (((Keeps.refl _ w2).drew).trans k4))
    have HOK4 := Lib.hid (show CoreOk N w4 base b 75 (cbRest { p with h := Hd.zero, begun := false }) ov sv p.c from ⟨hc4, HOK.out.fit, HOK.out.big, Nat.le_trans HOK.out.base_ K4.out.size⟩)
    have hbl4 := hc4.blk.lt
    clear hc4 k4
    go_wp2_with fail
    refine (fail_gives 7 p.c w4 base b _ _ ov sv HOK4.out.in_).mono ?_
    rintro e w5 hg
    obtain ⟨v, rfl, hown, hpost⟩ := CoreGives.cb hg
    obtain ⟨av, cv, rfl⟩ := hown.shape
    have HOWN := Lib.hid hown
    have HPOST := Lib.hid hpost
    clear hown hpost hg
    go_wp2_with fail
    go_ret
    exact CbGives.trans K4.out (fun i hi => Or.inl hi) ⟨_, rfl, HOWN.out, HPOST.out⟩

set_option maxHeartbeats 3200000 in
set_option maxRecDepth 100000 in
theorem chead_box4f {N : Int} {w : World} {base b : Nat} {ov sv : Value} {p : Cb} (hok : CoreOk N w base b 75 (cbRest p) ov sv p.c) (x : Int) {h' : Hd} {en : Bool} {er : Int}
    (hst : Calls Try.prog 38 #[.pointer (some ⟨b, 12, none⟩), .int .u8 x] w fun r w' => r = .returned (.tuple #[.bool en, .int .i64 er]) ∧ HdPost w base b 75 [.bool p.begun] ov sv p.c h' w') (hen : en = true) (her : er = 0) (he : h'.e = 0) (hend : h'.end_ = true) (hv0 : 0 ≤ h'.v) (hv1 : h'.v ≤ 18446744073709551615) (hm : h'.major = 4) (hw : h'.open_ = false) (hg : ¬ 1000000 < h'.v) :
    Calls Try.prog 29 #[.pointer (some ⟨b, 0, none⟩), .int .u8 x] w (CbGives w base b ov sv (Cb.told { p with h := Hd.zero, begun := false } 4 h'.v false)) := by
  subst hen her
  have := hv0
  have := hv1
  rw [show Cb.told { p with h := Hd.zero, begun := false } 4 h'.v false = Cb.put { p with h := Hd.zero, begun := false } (p.c.begin false h'.v) from by unfold Cb.told; rw [if_neg (by decide), if_neg (by decide), if_neg (by decide), if_neg hg]; rfl]
  have HOK := Lib.hid hok
  have HST := Lib.hid hst
  have hbl := hok.in_.blk.lt
  clear hok hst
  go_enter Try.func29, Try.ntmps29
  go_wp2_with fail
  refine HST.out.mono ?_
  rintro e w1 ⟨rfl, hc1, k1⟩
  have hc2 := hc1.putRest (i := 7) (u := .bool false)
  have k2 := k1.setIn (i := 19) (coBlks_self _ _ _) (.bool false)
  have hc3 : CoreIn (w1.setCell ⟨b, 19, none⟩ (.bool false)) base b 75 (h'.cells ++ [.bool false]) ov sv p.c := hc2
  have g19 : w1.cell? ⟨b, 19, none⟩ = some (.bool p.begun) := hc1.blk.cell 19
  have f19 := hc1.blk.free 19
  have hbl1 := hc1.blk.lt
  have HC3 := Lib.hid hc3
  have K2 := Lib.hid k2
  obtain ⟨w2, hw2⟩ : ∃ w2, w1.setCell ⟨b, 19, none⟩ (.bool false) = w2 := ⟨_, rfl⟩
  rw [hw2] at HC3 K2
  have HW2 := Lib.hid hw2
  have hbl2 := HC3.out.blk.lt
  clear hc1 k1 hc2 k2 hc3 hw2
  have hg2 : h'.v ≤ 1000000 := by omega
  have HMJ := Lib.hid (fun W (k : Keeps [] w2 W) => hmajor_any (HC3.out.keep0 k) he)
  have HVA := Lib.hid (fun W (k : Keeps [] w2 W) => hvalue_any (HC3.out.keep0 k) he hend)
  have HOP := Lib.hid (fun W (k : Keeps [] w2 W) => hopen_any (HC3.out.keep0 k) he)
  have HCL := Lib.hid (fun W (k : Keeps [] w2 W) => hclear_any (HC3.out.keep0 k))
  rw [hm] at HMJ
  rw [hw] at HOP
  clear he hend hm hw
  go_wp2_with fail
  rw [HW2.out]
  go_region_with (first | (go_at_call 39; refine (HMJ.out _ ((Keeps.refl _ _).drew)).mono ?_; rintro e w' ⟨rfl, rfl⟩) | (go_at_call 40; refine (HVA.out _ ((Keeps.refl _ _).drew)).mono ?_; rintro e w' ⟨rfl, rfl⟩) | (go_at_call 41; refine (HOP.out _ ((Keeps.refl _ _).drew)).mono ?_; rintro e w' ⟨rfl, rfl⟩))
  all_goals
    go_wp2_with fail
    refine (HCL.out _ ((Keeps.refl _ _).drew)).mono ?_
    rintro e w4 ⟨⟨vv, rfl⟩, hc4, k4⟩
    have K4 := Lib.hid (K2.out.trans (((Keeps.refl _ w2).drew).trans k4))
    have HOK4 := Lib.hid (show CoreOk N w4 base b 75 (cbRest { p with h := Hd.zero, begun := false }) ov sv p.c from ⟨hc4, HOK.out.fit, HOK.out.big, Nat.le_trans HOK.out.base_ K4.out.size⟩)
    have hbl4 := hc4.blk.lt
    clear hc4 k4
    go_wp2_with fail
    refine (begin_any HOK4.out false h'.v).mono ?_
    rintro e w5 hg
    obtain ⟨v, rfl, hown, hpost⟩ := CoreGives.cb hg
    obtain ⟨av, cv, rfl⟩ := hown.shape
    have HOWN := Lib.hid hown
    have HPOST := Lib.hid hpost
    clear hown hpost hg
    go_wp2_with fail
    go_ret
    exact CbGives.trans K4.out (fun i hi => Or.inl hi) ⟨_, rfl, HOWN.out, HPOST.out⟩

set_option maxHeartbeats 3200000 in
set_option maxRecDepth 100000 in
theorem chead_box5t {N : Int} {w : World} {base b : Nat} {ov sv : Value} {p : Cb} (hok : CoreOk N w base b 75 (cbRest p) ov sv p.c) (x : Int) {h' : Hd} {en : Bool} {er : Int}
    (hst : Calls Try.prog 38 #[.pointer (some ⟨b, 12, none⟩), .int .u8 x] w fun r w' => r = .returned (.tuple #[.bool en, .int .i64 er]) ∧ HdPost w base b 75 [.bool p.begun] ov sv p.c h' w') (hen : en = true) (her : er = 0) (he : h'.e = 0) (hend : h'.end_ = true) (hv0 : 0 ≤ h'.v) (hv1 : h'.v ≤ 18446744073709551615) (hm : h'.major = 5) (hw : h'.open_ = true) :
    Calls Try.prog 29 #[.pointer (some ⟨b, 0, none⟩), .int .u8 x] w (CbGives w base b ov sv (Cb.told { p with h := Hd.zero, begun := false } 5 h'.v true)) := by
  subst hen her
  have := hv0
  have := hv1
  rw [show Cb.told { p with h := Hd.zero, begun := false } 5 h'.v true = Cb.put { p with h := Hd.zero, begun := false } (p.c.begin true (-1)) from by unfold Cb.told; rw [if_neg (by decide), if_neg (by decide), if_pos rfl]; rfl]
  have HOK := Lib.hid hok
  have HST := Lib.hid hst
  have hbl := hok.in_.blk.lt
  clear hok hst
  go_enter Try.func29, Try.ntmps29
  go_wp2_with fail
  refine HST.out.mono ?_
  rintro e w1 ⟨rfl, hc1, k1⟩
  have hc2 := hc1.putRest (i := 7) (u := .bool false)
  have k2 := k1.setIn (i := 19) (coBlks_self _ _ _) (.bool false)
  have hc3 : CoreIn (w1.setCell ⟨b, 19, none⟩ (.bool false)) base b 75 (h'.cells ++ [.bool false]) ov sv p.c := hc2
  have g19 : w1.cell? ⟨b, 19, none⟩ = some (.bool p.begun) := hc1.blk.cell 19
  have f19 := hc1.blk.free 19
  have hbl1 := hc1.blk.lt
  have HC3 := Lib.hid hc3
  have K2 := Lib.hid k2
  obtain ⟨w2, hw2⟩ : ∃ w2, w1.setCell ⟨b, 19, none⟩ (.bool false) = w2 := ⟨_, rfl⟩
  rw [hw2] at HC3 K2
  have HW2 := Lib.hid hw2
  have hbl2 := HC3.out.blk.lt
  clear hc1 k1 hc2 k2 hc3 hw2
  have HMJ := Lib.hid (fun W (k : Keeps [] w2 W) => hmajor_any (HC3.out.keep0 k) he)
  have HVA := Lib.hid (fun W (k : Keeps [] w2 W) => hvalue_any (HC3.out.keep0 k) he hend)
  have HOP := Lib.hid (fun W (k : Keeps [] w2 W) => hopen_any (HC3.out.keep0 k) he)
  have HCL := Lib.hid (fun W (k : Keeps [] w2 W) => hclear_any (HC3.out.keep0 k))
  rw [hm] at HMJ
  rw [hw] at HOP
  clear he hend hm hw
  go_wp2_with fail
  rw [HW2.out]
  go_region_with (first | (go_at_call 39; refine (HMJ.out _ ((Keeps.refl _ _).drew)).mono ?_; rintro e w' ⟨rfl, rfl⟩) | (go_at_call 40; refine (HVA.out _ ((Keeps.refl _ _).drew)).mono ?_; rintro e w' ⟨rfl, rfl⟩) | (go_at_call 41; refine (HOP.out _ ((Keeps.refl _ _).drew)).mono ?_; rintro e w' ⟨rfl, rfl⟩))
  all_goals
    go_wp2_with fail
    refine (HCL.out _ ((Keeps.refl _ _).drew)).mono ?_
    rintro e w4 ⟨⟨vv, rfl⟩, hc4, k4⟩
    have K4 := Lib.hid (K2.out.trans (((Keeps.refl _ w2).drew).trans k4))
    have HOK4 := Lib.hid (show CoreOk N w4 base b 75 (cbRest { p with h := Hd.zero, begun := false }) ov sv p.c from ⟨hc4, HOK.out.fit, HOK.out.big, Nat.le_trans HOK.out.base_ K4.out.size⟩)
    have hbl4 := hc4.blk.lt
    clear hc4 k4
    go_wp2_with fail
    refine (begin_any HOK4.out true (-1)).mono ?_
    rintro e w5 hg
    obtain ⟨v, rfl, hown, hpost⟩ := CoreGives.cb hg
    obtain ⟨av, cv, rfl⟩ := hown.shape
    have HOWN := Lib.hid hown
    have HPOST := Lib.hid hpost
    clear hown hpost hg
    go_wp2_with fail
    go_ret
    exact CbGives.trans K4.out (fun i hi => Or.inl hi) ⟨_, rfl, HOWN.out, HPOST.out⟩

set_option maxHeartbeats 3200000 in
set_option maxRecDepth 100000 in
theorem chead_box5g {N : Int} {w : World} {base b : Nat} {ov sv : Value} {p : Cb} (hok : CoreOk N w base b 75 (cbRest p) ov sv p.c) (x : Int) {h' : Hd} {en : Bool} {er : Int}
    (hst : Calls Try.prog 38 #[.pointer (some ⟨b, 12, none⟩), .int .u8 x] w fun r w' => r = .returned (.tuple #[.bool en, .int .i64 er]) ∧ HdPost w base b 75 [.bool p.begun] ov sv p.c h' w') (hen : en = true) (her : er = 0) (he : h'.e = 0) (hend : h'.end_ = true) (hv0 : 0 ≤ h'.v) (hv1 : h'.v ≤ 18446744073709551615) (hm : h'.major = 5) (hw : h'.open_ = false) (hg : 1000000 < h'.v) :
    Calls Try.prog 29 #[.pointer (some ⟨b, 0, none⟩), .int .u8 x] w (CbGives w base b ov sv (Cb.told { p with h := Hd.zero, begun := false } 5 h'.v false)) := by
  subst hen her
  have := hv0
  have := hv1
  rw [show Cb.told { p with h := Hd.zero, begun := false } 5 h'.v false = Cb.put { p with h := Hd.zero, begun := false } (p.c.fail 7) from by unfold Cb.told; rw [if_neg (by decide), if_neg (by decide), if_neg (by decide), if_pos hg]]
  have HOK := Lib.hid hok
  have HST := Lib.hid hst
  have hbl := hok.in_.blk.lt
  clear hok hst
  go_enter Try.func29, Try.ntmps29
  go_wp2_with fail
  refine HST.out.mono ?_
  rintro e w1 ⟨rfl, hc1, k1⟩
  have hc2 := hc1.putRest (i := 7) (u := .bool false)
  have k2 := k1.setIn (i := 19) (coBlks_self _ _ _) (.bool false)
  have hc3 : CoreIn (w1.setCell ⟨b, 19, none⟩ (.bool false)) base b 75 (h'.cells ++ [.bool false]) ov sv p.c := hc2
  have g19 : w1.cell? ⟨b, 19, none⟩ = some (.bool p.begun) := hc1.blk.cell 19
  have f19 := hc1.blk.free 19
  have hbl1 := hc1.blk.lt
  have HC3 := Lib.hid hc3
  have K2 := Lib.hid k2
  obtain ⟨w2, hw2⟩ : ∃ w2, w1.setCell ⟨b, 19, none⟩ (.bool false) = w2 := ⟨_, rfl⟩
  rw [hw2] at HC3 K2
  have HW2 := Lib.hid hw2
  have hbl2 := HC3.out.blk.lt
  clear hc1 k1 hc2 k2 hc3 hw2
  have HMJ := Lib.hid (fun W (k : Keeps [] w2 W) => hmajor_any (HC3.out.keep0 k) he)
  have HVA := Lib.hid (fun W (k : Keeps [] w2 W) => hvalue_any (HC3.out.keep0 k) he hend)
  have HOP := Lib.hid (fun W (k : Keeps [] w2 W) => hopen_any (HC3.out.keep0 k) he)
  have HCL := Lib.hid (fun W (k : Keeps [] w2 W) => hclear_any (HC3.out.keep0 k))
  rw [hm] at HMJ
  rw [hw] at HOP
  clear he hend hm hw
  go_wp2_with fail
  rw [HW2.out]
  go_region_with (first | (go_at_call 39; refine (HMJ.out _ ((Keeps.refl _ _).drew)).mono ?_; rintro e w' ⟨rfl, rfl⟩) | (go_at_call 40; refine (HVA.out _ ((Keeps.refl _ _).drew)).mono ?_; rintro e w' ⟨rfl, rfl⟩) | (go_at_call 41; refine (HOP.out _ ((Keeps.refl _ _).drew)).mono ?_; rintro e w' ⟨rfl, rfl⟩))
  all_goals
    go_wp2_with fail
    refine (HCL.out _ ((Keeps.refl _ _).drew)).mono ?_
    rintro e w4 ⟨⟨vv, rfl⟩, hc4, k4⟩
    have K4 := Lib.hid (K2.out.trans (((Keeps.refl _ w2).drew).trans k4))
    have HOK4 := Lib.hid (show CoreOk N w4 base b 75 (cbRest { p with h := Hd.zero, begun := false }) ov sv p.c from ⟨hc4, HOK.out.fit, HOK.out.big, Nat.le_trans HOK.out.base_ K4.out.size⟩)
    have hbl4 := hc4.blk.lt
    clear hc4 k4
    go_wp2_with fail
    refine (fail_gives 7 p.c w4 base b _ _ ov sv HOK4.out.in_).mono ?_
    rintro e w5 hg
    obtain ⟨v, rfl, hown, hpost⟩ := CoreGives.cb hg
    obtain ⟨av, cv, rfl⟩ := hown.shape
    have HOWN := Lib.hid hown
    have HPOST := Lib.hid hpost
    clear hown hpost hg
    go_wp2_with fail
    go_ret
    exact CbGives.trans K4.out (fun i hi => Or.inl hi) ⟨_, rfl, HOWN.out, HPOST.out⟩

set_option maxHeartbeats 3200000 in
set_option maxRecDepth 100000 in
theorem chead_box5f {N : Int} {w : World} {base b : Nat} {ov sv : Value} {p : Cb} (hok : CoreOk N w base b 75 (cbRest p) ov sv p.c) (x : Int) {h' : Hd} {en : Bool} {er : Int}
    (hst : Calls Try.prog 38 #[.pointer (some ⟨b, 12, none⟩), .int .u8 x] w fun r w' => r = .returned (.tuple #[.bool en, .int .i64 er]) ∧ HdPost w base b 75 [.bool p.begun] ov sv p.c h' w') (hen : en = true) (her : er = 0) (he : h'.e = 0) (hend : h'.end_ = true) (hv0 : 0 ≤ h'.v) (hv1 : h'.v ≤ 18446744073709551615) (hm : h'.major = 5) (hw : h'.open_ = false) (hg : ¬ 1000000 < h'.v) :
    Calls Try.prog 29 #[.pointer (some ⟨b, 0, none⟩), .int .u8 x] w (CbGives w base b ov sv (Cb.told { p with h := Hd.zero, begun := false } 5 h'.v false)) := by
  subst hen her
  have := hv0
  have := hv1
  rw [show Cb.told { p with h := Hd.zero, begun := false } 5 h'.v false = Cb.put { p with h := Hd.zero, begun := false } (p.c.begin true h'.v) from by unfold Cb.told; rw [if_neg (by decide), if_neg (by decide), if_neg (by decide), if_neg hg]; rfl]
  have HOK := Lib.hid hok
  have HST := Lib.hid hst
  have hbl := hok.in_.blk.lt
  clear hok hst
  go_enter Try.func29, Try.ntmps29
  go_wp2_with fail
  refine HST.out.mono ?_
  rintro e w1 ⟨rfl, hc1, k1⟩
  have hc2 := hc1.putRest (i := 7) (u := .bool false)
  have k2 := k1.setIn (i := 19) (coBlks_self _ _ _) (.bool false)
  have hc3 : CoreIn (w1.setCell ⟨b, 19, none⟩ (.bool false)) base b 75 (h'.cells ++ [.bool false]) ov sv p.c := hc2
  have g19 : w1.cell? ⟨b, 19, none⟩ = some (.bool p.begun) := hc1.blk.cell 19
  have f19 := hc1.blk.free 19
  have hbl1 := hc1.blk.lt
  have HC3 := Lib.hid hc3
  have K2 := Lib.hid k2
  obtain ⟨w2, hw2⟩ : ∃ w2, w1.setCell ⟨b, 19, none⟩ (.bool false) = w2 := ⟨_, rfl⟩
  rw [hw2] at HC3 K2
  have HW2 := Lib.hid hw2
  have hbl2 := HC3.out.blk.lt
  clear hc1 k1 hc2 k2 hc3 hw2
  have hg2 : h'.v ≤ 1000000 := by omega
  have HMJ := Lib.hid (fun W (k : Keeps [] w2 W) => hmajor_any (HC3.out.keep0 k) he)
  have HVA := Lib.hid (fun W (k : Keeps [] w2 W) => hvalue_any (HC3.out.keep0 k) he hend)
  have HOP := Lib.hid (fun W (k : Keeps [] w2 W) => hopen_any (HC3.out.keep0 k) he)
  have HCL := Lib.hid (fun W (k : Keeps [] w2 W) => hclear_any (HC3.out.keep0 k))
  rw [hm] at HMJ
  rw [hw] at HOP
  clear he hend hm hw
  go_wp2_with fail
  rw [HW2.out]
  go_region_with (first | (go_at_call 39; refine (HMJ.out _ ((Keeps.refl _ _).drew)).mono ?_; rintro e w' ⟨rfl, rfl⟩) | (go_at_call 40; refine (HVA.out _ ((Keeps.refl _ _).drew)).mono ?_; rintro e w' ⟨rfl, rfl⟩) | (go_at_call 41; refine (HOP.out _ ((Keeps.refl _ _).drew)).mono ?_; rintro e w' ⟨rfl, rfl⟩))
  all_goals
    go_wp2_with fail
    refine (HCL.out _ ((Keeps.refl _ _).drew)).mono ?_
    rintro e w4 ⟨⟨vv, rfl⟩, hc4, k4⟩
    have K4 := Lib.hid (K2.out.trans (((Keeps.refl _ w2).drew).trans k4))
    have HOK4 := Lib.hid (show CoreOk N w4 base b 75 (cbRest { p with h := Hd.zero, begun := false }) ov sv p.c from ⟨hc4, HOK.out.fit, HOK.out.big, Nat.le_trans HOK.out.base_ K4.out.size⟩)
    have hbl4 := hc4.blk.lt
    clear hc4 k4
    go_wp2_with fail
    refine (begin_any HOK4.out true h'.v).mono ?_
    rintro e w5 hg
    obtain ⟨v, rfl, hown, hpost⟩ := CoreGives.cb hg
    obtain ⟨av, cv, rfl⟩ := hown.shape
    have HOWN := Lib.hid hown
    have HPOST := Lib.hid hpost
    clear hown hpost hg
    go_wp2_with fail
    go_ret
    exact CbGives.trans K4.out (fun i hi => Or.inl hi) ⟨_, rfl, HOWN.out, HPOST.out⟩

theorem chead_end {N : Int} {w : World} {base b : Nat} {ov sv : Value} {p : Cb} (hok : CoreOk N w base b 75 (cbRest p) ov sv p.c) (x : Int) {h' : Hd}
    (hst : Calls Try.prog 38 #[.pointer (some ⟨b, 12, none⟩), .int .u8 x] w fun r w' => r = .returned (.tuple #[.bool true, .int .i64 0]) ∧ HdPost w base b 75 [.bool p.begun] ov sv p.c h' w') (he : h'.e = 0) (hend : h'.end_ = true) (hv0 : 0 ≤ h'.v) (hv1 : h'.v ≤ 18446744073709551615) (hm : 0 ≤ h'.major ∧ h'.major ≤ 5) :
    Calls Try.prog 29 #[.pointer (some ⟨b, 0, none⟩), .int .u8 x] w (CbGives w base b ov sv (Cb.told { p with h := Hd.zero, begun := false } h'.major h'.v h'.open_)) := by
  rcases (show h'.major = 0 ∨ h'.major = 1 ∨ h'.major = 2 ∨ h'.major = 3 ∨ h'.major = 4 ∨ h'.major = 5 by omega) with hm | hm | hm | hm | hm | hm
  all_goals
    rw [hm]
    cases hw : h'.open_
  · exact chead_int0f hok x hst rfl rfl he hend hv0 hv1 hm hw
  · exact chead_int0t hok x hst rfl rfl he hend hv0 hv1 hm hw
  · exact chead_int1f hok x hst rfl rfl he hend hv0 hv1 hm hw
  · exact chead_int1t hok x hst rfl rfl he hend hv0 hv1 hm hw
  · exact chead_str2f hok x hst rfl rfl he hend hv0 hv1 hm hw
  · exact chead_str2t hok x hst rfl rfl he hend hv0 hv1 hm hw
  · exact chead_str3f hok x hst rfl rfl he hend hv0 hv1 hm hw
  · exact chead_str3t hok x hst rfl rfl he hend hv0 hv1 hm hw
  · by_cases hg : 1000000 < h'.v
    · exact chead_box4g hok x hst rfl rfl he hend hv0 hv1 hm hw hg
    · exact chead_box4f hok x hst rfl rfl he hend hv0 hv1 hm hw hg
  · exact chead_box4t hok x hst rfl rfl he hend hv0 hv1 hm hw
  · by_cases hg : 1000000 < h'.v
    · exact chead_box5g hok x hst rfl rfl he hend hv0 hv1 hm hw hg
    · exact chead_box5f hok x hst rfl rfl he hend hv0 hv1 hm hw hg
  · exact chead_box5t hok x hst rfl rfl he hend hv0 hv1 hm hw
end Go.Proofs.Ytdfdajedcgmbfaa
