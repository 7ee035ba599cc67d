/-
  cborin.Parser's item, chunk: their contracts.
-/
import Derived.Test.YtdfdajedcgmbfaaCborFirst
namespace Go.Proofs.Ytdfdajedcgmbfaa
open Go.RowKit Go.Tru

/-- a Parser between items -/
structure CbOk (N : Int) (w : World) (base b : Nat) (ov sv : Value) (p : Cb) : Prop where
  in_ : CbIn w base b ov sv p
  fit : p.Fit N
  big : 0 ≤ N ∧ N ≤ 100000000
  base_ : base ≤ w.heap.size

theorem CbOk.core {N : Int} {w : World} {base b : Nat} {ov sv : Value} {p : Cb} (h : CbOk N w base b ov sv p) : CoreOk N w base b 75 (cbRest p) ov sv p.c := ⟨h.in_, h.fit.core, h.big.2, h.base_⟩

set_option maxHeartbeats 1600000 in
set_option maxRecDepth 100000 in
theorem citem_done {N : Int} {w : World} {base b : Nat} {ov sv : Value} {p : Cb} (h : CoreOk N w base b 75 (cbRest p) ov sv p.c) (hbg : p.begun = false) (hz : p.h = Hd.zero) (x : Int) (hx0 : 0 ≤ x) (hx1 : x ≤ 255) (hd : p.c.done = true) :
    Calls Try.prog 31 #[.pointer (some ⟨b, 0, none⟩), .int .u8 x] w (CbGives w base b ov sv (p.item x)) := by
  have hbl := h.in_.blk.lt
  have HH := Lib.hid h
  have HBG := Lib.hid hbg
  have HZ := Lib.hid hz
  have HD := Lib.hid (coreDone_any p.c w base b _ _ ov sv h.in_)
  have HA := Lib.hid (atKey_any p.c w base b _ _ ov sv h.in_ h.opens (fun c hc => by have := h.parts c hc; have := h.big; omega))
  have HFU := Lib.hid (coreFull_any p.c w base b _ _ ov sv h.in_)
  have HFA := Lib.hid (fun e W (k : Keeps [] w W) => fail_gives e p.c W base b _ _ ov sv (h.keep0 k).in_)
  obtain ⟨g0, g1, g2, g3, g4, g5, g6, g7⟩ := core_facts h.in_
  have hand := pk_and31 hx0 hx1
  clear h hbg hz
  obtain ⟨res, hres⟩ : ∃ res, p.item x = res := ⟨_, rfl⟩
  rw [hres]
  have HR := Lib.hid hres
  clear hres
  have HM := Lib.hid (show p.item x = p.put (p.c.fail 2) by unfold Cb.item; rw [if_pos hd])
  go_enter Try.func31, Try.ntmps31
  go_wp2_with fail
  refine HD.out.mono ?_
  rintro e w' ⟨rfl, rfl⟩
  rw [hd]
  clear hd
  go_wp2_with fail
  refine (HFA.out 2 w (Keeps.refl _ _)).mono ?_
  rintro e w9 hg9
  have hg9 := CoreGives.cb hg9
  obtain ⟨v9, rfl, hown9, hpost9⟩ := hg9
  obtain ⟨av9, cv9, rfl⟩ := hown9.shape
  have HOWN9 := Lib.hid hown9
  have HPOST9 := Lib.hid hpost9
  clear hown9 hpost9
  go_wp2_with fail
  go_ret
  rw [← HR.out, HM.out]
  exact ⟨_, rfl, HOWN9.out, HPOST9.out⟩

set_option maxHeartbeats 1600000 in
set_option maxRecDepth 100000 in
theorem citem_low28 {N : Int} {w : World} {base b : Nat} {ov sv : Value} {p : Cb} (h : CoreOk N w base b 75 (cbRest p) ov sv p.c) (hbg : p.begun = false) (hz : p.h = Hd.zero) (x : Int) (hx0 : 0 ≤ x) (hx1 : x ≤ 255) (hd : p.c.done = false) (hl : x % 32 = 28) :
    Calls Try.prog 31 #[.pointer (some ⟨b, 0, none⟩), .int .u8 x] w (CbGives w base b ov sv (p.item x)) := by
  have hbl := h.in_.blk.lt
  have HH := Lib.hid h
  have HBG := Lib.hid hbg
  have HZ := Lib.hid hz
  have HD := Lib.hid (coreDone_any p.c w base b _ _ ov sv h.in_)
  have HA := Lib.hid (atKey_any p.c w base b _ _ ov sv h.in_ h.opens (fun c hc => by have := h.parts c hc; have := h.big; omega))
  have HFU := Lib.hid (coreFull_any p.c w base b _ _ ov sv h.in_)
  have HFA := Lib.hid (fun e W (k : Keeps [] w W) => fail_gives e p.c W base b _ _ ov sv (h.keep0 k).in_)
  obtain ⟨g0, g1, g2, g3, g4, g5, g6, g7⟩ := core_facts h.in_
  have hand := pk_and31 hx0 hx1
  clear h hbg hz
  obtain ⟨res, hres⟩ : ∃ res, p.item x = res := ⟨_, rfl⟩
  rw [hres]
  have HR := Lib.hid hres
  clear hres
  have HM := Lib.hid (show p.item x = p.put (p.c.fail 2) by unfold Cb.item; rw [if_neg (show ¬ p.c.done = true by rw [hd]; simp), if_pos (Or.inl (by omega))])
  rw [hl] at hand
  have hxb : (x == 255) = false := by simp; omega
  go_enter Try.func31, Try.ntmps31
  go_wp2_with fail
  refine HD.out.mono ?_
  rintro e w' ⟨rfl, rfl⟩
  rw [hd]
  clear hd
  go_wp2_with fail
  refine (HFA.out 2 w (Keeps.refl _ _)).mono ?_
  rintro e w9 hg9
  have hg9 := CoreGives.cb hg9
  obtain ⟨v9, rfl, hown9, hpost9⟩ := hg9
  obtain ⟨av9, cv9, rfl⟩ := hown9.shape
  have HOWN9 := Lib.hid hown9
  have HPOST9 := Lib.hid hpost9
  clear hown9 hpost9
  go_wp2_with fail
  go_ret
  rw [← HR.out, HM.out]
  exact ⟨_, rfl, HOWN9.out, HPOST9.out⟩

set_option maxHeartbeats 1600000 in
set_option maxRecDepth 100000 in
theorem citem_low29 {N : Int} {w : World} {base b : Nat} {ov sv : Value} {p : Cb} (h : CoreOk N w base b 75 (cbRest p) ov sv p.c) (hbg : p.begun = false) (hz : p.h = Hd.zero) (x : Int) (hx0 : 0 ≤ x) (hx1 : x ≤ 255) (hd : p.c.done = false) (hl : x % 32 = 29) :
    Calls Try.prog 31 #[.pointer (some ⟨b, 0, none⟩), .int .u8 x] w (CbGives w base b ov sv (p.item x)) := by
  have hbl := h.in_.blk.lt
  have HH := Lib.hid h
  have HBG := Lib.hid hbg
  have HZ := Lib.hid hz
  have HD := Lib.hid (coreDone_any p.c w base b _ _ ov sv h.in_)
  have HA := Lib.hid (atKey_any p.c w base b _ _ ov sv h.in_ h.opens (fun c hc => by have := h.parts c hc; have := h.big; omega))
  have HFU := Lib.hid (coreFull_any p.c w base b _ _ ov sv h.in_)
  have HFA := Lib.hid (fun e W (k : Keeps [] w W) => fail_gives e p.c W base b _ _ ov sv (h.keep0 k).in_)
  obtain ⟨g0, g1, g2, g3, g4, g5, g6, g7⟩ := core_facts h.in_
  have hand := pk_and31 hx0 hx1
  clear h hbg hz
  obtain ⟨res, hres⟩ : ∃ res, p.item x = res := ⟨_, rfl⟩
  rw [hres]
  have HR := Lib.hid hres
  clear hres
  have HM := Lib.hid (show p.item x = p.put (p.c.fail 2) by unfold Cb.item; rw [if_neg (show ¬ p.c.done = true by rw [hd]; simp), if_pos (Or.inl (by omega))])
  rw [hl] at hand
  have hxb : (x == 255) = false := by simp; omega
  go_enter Try.func31, Try.ntmps31
  go_wp2_with fail
  refine HD.out.mono ?_
  rintro e w' ⟨rfl, rfl⟩
  rw [hd]
  clear hd
  go_wp2_with fail
  refine (HFA.out 2 w (Keeps.refl _ _)).mono ?_
  rintro e w9 hg9
  have hg9 := CoreGives.cb hg9
  obtain ⟨v9, rfl, hown9, hpost9⟩ := hg9
  obtain ⟨av9, cv9, rfl⟩ := hown9.shape
  have HOWN9 := Lib.hid hown9
  have HPOST9 := Lib.hid hpost9
  clear hown9 hpost9
  go_wp2_with fail
  go_ret
  rw [← HR.out, HM.out]
  exact ⟨_, rfl, HOWN9.out, HPOST9.out⟩

set_option maxHeartbeats 1600000 in
set_option maxRecDepth 100000 in
theorem citem_low30 {N : Int} {w : World} {base b : Nat} {ov sv : Value} {p : Cb} (h : CoreOk N w base b 75 (cbRest p) ov sv p.c) (hbg : p.begun = false) (hz : p.h = Hd.zero) (x : Int) (hx0 : 0 ≤ x) (hx1 : x ≤ 255) (hd : p.c.done = false) (hl : x % 32 = 30) :
    Calls Try.prog 31 #[.pointer (some ⟨b, 0, none⟩), .int .u8 x] w (CbGives w base b ov sv (p.item x)) := by
  have hbl := h.in_.blk.lt
  have HH := Lib.hid h
  have HBG := Lib.hid hbg
  have HZ := Lib.hid hz
  have HD := Lib.hid (coreDone_any p.c w base b _ _ ov sv h.in_)
  have HA := Lib.hid (atKey_any p.c w base b _ _ ov sv h.in_ h.opens (fun c hc => by have := h.parts c hc; have := h.big; omega))
  have HFU := Lib.hid (coreFull_any p.c w base b _ _ ov sv h.in_)
  have HFA := Lib.hid (fun e W (k : Keeps [] w W) => fail_gives e p.c W base b _ _ ov sv (h.keep0 k).in_)
  obtain ⟨g0, g1, g2, g3, g4, g5, g6, g7⟩ := core_facts h.in_
  have hand := pk_and31 hx0 hx1
  clear h hbg hz
  obtain ⟨res, hres⟩ : ∃ res, p.item x = res := ⟨_, rfl⟩
  rw [hres]
  have HR := Lib.hid hres
  clear hres
  have HM := Lib.hid (show p.item x = p.put (p.c.fail 2) by unfold Cb.item; rw [if_neg (show ¬ p.c.done = true by rw [hd]; simp), if_pos (Or.inl (by omega))])
  rw [hl] at hand
  have hxb : (x == 255) = false := by simp; omega
  go_enter Try.func31, Try.ntmps31
  go_wp2_with fail
  refine HD.out.mono ?_
  rintro e w' ⟨rfl, rfl⟩
  rw [hd]
  clear hd
  go_wp2_with fail
  refine (HFA.out 2 w (Keeps.refl _ _)).mono ?_
  rintro e w9 hg9
  have hg9 := CoreGives.cb hg9
  obtain ⟨v9, rfl, hown9, hpost9⟩ := hg9
  obtain ⟨av9, cv9, rfl⟩ := hown9.shape
  have HOWN9 := Lib.hid hown9
  have HPOST9 := Lib.hid hpost9
  clear hown9 hpost9
  go_wp2_with fail
  go_ret
  rw [← HR.out, HM.out]
  exact ⟨_, rfl, HOWN9.out, HPOST9.out⟩

set_option maxHeartbeats 1600000 in
set_option maxRecDepth 100000 in
theorem citem_open0 {N : Int} {w : World} {base b : Nat} {ov sv : Value} {p : Cb} (h : CoreOk N w base b 75 (cbRest p) ov sv p.c) (hbg : p.begun = false) (hz : p.h = Hd.zero) (x : Int) (hx0 : 0 ≤ x) (hx1 : x ≤ 255) (hd : p.c.done = false) (hx : x = 31) :
    Calls Try.prog 31 #[.pointer (some ⟨b, 0, none⟩), .int .u8 x] w (CbGives w base b ov sv (p.item x)) := by
  have hbl := h.in_.blk.lt
  have HH := Lib.hid h
  have HBG := Lib.hid hbg
  have HZ := Lib.hid hz
  have HD := Lib.hid (coreDone_any p.c w base b _ _ ov sv h.in_)
  have HA := Lib.hid (atKey_any p.c w base b _ _ ov sv h.in_ h.opens (fun c hc => by have := h.parts c hc; have := h.big; omega))
  have HFU := Lib.hid (coreFull_any p.c w base b _ _ ov sv h.in_)
  have HFA := Lib.hid (fun e W (k : Keeps [] w W) => fail_gives e p.c W base b _ _ ov sv (h.keep0 k).in_)
  obtain ⟨g0, g1, g2, g3, g4, g5, g6, g7⟩ := core_facts h.in_
  have hand := pk_and31 hx0 hx1
  clear h hbg hz
  obtain ⟨res, hres⟩ : ∃ res, p.item x = res := ⟨_, rfl⟩
  rw [hres]
  have HR := Lib.hid hres
  clear hres
  have HM := Lib.hid (show p.item x = p.put (p.c.fail 2) by unfold Cb.item; rw [if_neg (show ¬ p.c.done = true by rw [hd]; simp), if_pos (Or.inr (by omega))])
  subst hx
  go_enter Try.func31, Try.ntmps31
  go_wp2_with fail
  refine HD.out.mono ?_
  rintro e w' ⟨rfl, rfl⟩
  rw [hd]
  clear hd
  go_wp2_with fail
  refine (HFA.out 2 w (Keeps.refl _ _)).mono ?_
  rintro e w9 hg9
  have hg9 := CoreGives.cb hg9
  obtain ⟨v9, rfl, hown9, hpost9⟩ := hg9
  obtain ⟨av9, cv9, rfl⟩ := hown9.shape
  have HOWN9 := Lib.hid hown9
  have HPOST9 := Lib.hid hpost9
  clear hown9 hpost9
  go_wp2_with fail
  go_ret
  rw [← HR.out, HM.out]
  exact ⟨_, rfl, HOWN9.out, HPOST9.out⟩

set_option maxHeartbeats 1600000 in
set_option maxRecDepth 100000 in
theorem citem_open1 {N : Int} {w : World} {base b : Nat} {ov sv : Value} {p : Cb} (h : CoreOk N w base b 75 (cbRest p) ov sv p.c) (hbg : p.begun = false) (hz : p.h = Hd.zero) (x : Int) (hx0 : 0 ≤ x) (hx1 : x ≤ 255) (hd : p.c.done = false) (hx : x = 63) :
    Calls Try.prog 31 #[.pointer (some ⟨b, 0, none⟩), .int .u8 x] w (CbGives w base b ov sv (p.item x)) := by
  have hbl := h.in_.blk.lt
  have HH := Lib.hid h
  have HBG := Lib.hid hbg
  have HZ := Lib.hid hz
  have HD := Lib.hid (coreDone_any p.c w base b _ _ ov sv h.in_)
  have HA := Lib.hid (atKey_any p.c w base b _ _ ov sv h.in_ h.opens (fun c hc => by have := h.parts c hc; have := h.big; omega))
  have HFU := Lib.hid (coreFull_any p.c w base b _ _ ov sv h.in_)
  have HFA := Lib.hid (fun e W (k : Keeps [] w W) => fail_gives e p.c W base b _ _ ov sv (h.keep0 k).in_)
  obtain ⟨g0, g1, g2, g3, g4, g5, g6, g7⟩ := core_facts h.in_
  have hand := pk_and31 hx0 hx1
  clear h hbg hz
  obtain ⟨res, hres⟩ : ∃ res, p.item x = res := ⟨_, rfl⟩
  rw [hres]
  have HR := Lib.hid hres
  clear hres
  have HM := Lib.hid (show p.item x = p.put (p.c.fail 2) by unfold Cb.item; rw [if_neg (show ¬ p.c.done = true by rw [hd]; simp), if_pos (Or.inr (by omega))])
  subst hx
  go_enter Try.func31, Try.ntmps31
  go_wp2_with fail
  refine HD.out.mono ?_
  rintro e w' ⟨rfl, rfl⟩
  rw [hd]
  clear hd
  go_wp2_with fail
  refine (HFA.out 2 w (Keeps.refl _ _)).mono ?_
  rintro e w9 hg9
  have hg9 := CoreGives.cb hg9
  obtain ⟨v9, rfl, hown9, hpost9⟩ := hg9
  obtain ⟨av9, cv9, rfl⟩ := hown9.shape
  have HOWN9 := Lib.hid hown9
  have HPOST9 := Lib.hid hpost9
  clear hown9 hpost9
  go_wp2_with fail
  go_ret
  rw [← HR.out, HM.out]
  exact ⟨_, rfl, HOWN9.out, HPOST9.out⟩

set_option maxHeartbeats 1600000 in
set_option maxRecDepth 100000 in
theorem citem_open6 {N : Int} {w : World} {base b : Nat} {ov sv : Value} {p : Cb} (h : CoreOk N w base b 75 (cbRest p) ov sv p.c) (hbg : p.begun = false) (hz : p.h = Hd.zero) (x : Int) (hx0 : 0 ≤ x) (hx1 : x ≤ 255) (hd : p.c.done = false) (hx : x = 223) :
    Calls Try.prog 31 #[.pointer (some ⟨b, 0, none⟩), .int .u8 x] w (CbGives w base b ov sv (p.item x)) := by
  have hbl := h.in_.blk.lt
  have HH := Lib.hid h
  have HBG := Lib.hid hbg
  have HZ := Lib.hid hz
  have HD := Lib.hid (coreDone_any p.c w base b _ _ ov sv h.in_)
  have HA := Lib.hid (atKey_any p.c w base b _ _ ov sv h.in_ h.opens (fun c hc => by have := h.parts c hc; have := h.big; omega))
  have HFU := Lib.hid (coreFull_any p.c w base b _ _ ov sv h.in_)
  have HFA := Lib.hid (fun e W (k : Keeps [] w W) => fail_gives e p.c W base b _ _ ov sv (h.keep0 k).in_)
  obtain ⟨g0, g1, g2, g3, g4, g5, g6, g7⟩ := core_facts h.in_
  have hand := pk_and31 hx0 hx1
  clear h hbg hz
  obtain ⟨res, hres⟩ : ∃ res, p.item x = res := ⟨_, rfl⟩
  rw [hres]
  have HR := Lib.hid hres
  clear hres
  have HM := Lib.hid (show p.item x = p.put (p.c.fail 2) by unfold Cb.item; rw [if_neg (show ¬ p.c.done = true by rw [hd]; simp), if_pos (Or.inr (by omega))])
  subst hx
  go_enter Try.func31, Try.ntmps31
  go_wp2_with fail
  refine HD.out.mono ?_
  rintro e w' ⟨rfl, rfl⟩
  rw [hd]
  clear hd
  go_wp2_with fail
  refine (HFA.out 2 w (Keeps.refl _ _)).mono ?_
  rintro e w9 hg9
  have hg9 := CoreGives.cb hg9
  obtain ⟨v9, rfl, hown9, hpost9⟩ := hg9
  obtain ⟨av9, cv9, rfl⟩ := hown9.shape
  have HOWN9 := Lib.hid hown9
  have HPOST9 := Lib.hid hpost9
  clear hown9 hpost9
  go_wp2_with fail
  go_ret
  rw [← HR.out, HM.out]
  exact ⟨_, rfl, HOWN9.out, HPOST9.out⟩

set_option maxHeartbeats 1600000 in
set_option maxRecDepth 100000 in
theorem citem_brk {N : Int} {w : World} {base b : Nat} {ov sv : Value} {p : Cb} (h : CoreOk N w base b 75 (cbRest p) ov sv p.c) (hbg : p.begun = false) (hz : p.h = Hd.zero) (x : Int) (hx0 : 0 ≤ x) (hx1 : x ≤ 255) (hd : p.c.done = false) (hx : x = 255) :
    Calls Try.prog 31 #[.pointer (some ⟨b, 0, none⟩), .int .u8 x] w (CbGives w base b ov sv (p.item x)) := by
  have hbl := h.in_.blk.lt
  have HH := Lib.hid h
  have HBG := Lib.hid hbg
  have HZ := Lib.hid hz
  have HD := Lib.hid (coreDone_any p.c w base b _ _ ov sv h.in_)
  have HA := Lib.hid (atKey_any p.c w base b _ _ ov sv h.in_ h.opens (fun c hc => by have := h.parts c hc; have := h.big; omega))
  have HFU := Lib.hid (coreFull_any p.c w base b _ _ ov sv h.in_)
  have HFA := Lib.hid (fun e W (k : Keeps [] w W) => fail_gives e p.c W base b _ _ ov sv (h.keep0 k).in_)
  obtain ⟨g0, g1, g2, g3, g4, g5, g6, g7⟩ := core_facts h.in_
  have hand := pk_and31 hx0 hx1
  clear h hbg hz
  obtain ⟨res, hres⟩ : ∃ res, p.item x = res := ⟨_, rfl⟩
  rw [hres]
  have HR := Lib.hid hres
  clear hres
  have HM := Lib.hid (show p.item x = p.put p.c.brk by unfold Cb.item; rw [if_neg (show ¬ p.c.done = true by rw [hd]; simp), if_neg (by omega), if_pos hx])
  subst hx
  have HB := Lib.hid (brk_any HH.out)
  go_enter Try.func31, Try.ntmps31
  go_wp2_with fail
  refine HD.out.mono ?_
  rintro e w' ⟨rfl, rfl⟩
  rw [hd]
  clear hd
  go_wp2_with fail
  refine (HB.out).mono ?_
  rintro e w9 hg9
  have hg9 := CoreGives.cb hg9
  obtain ⟨v9, rfl, hown9, hpost9⟩ := hg9
  obtain ⟨av9, cv9, rfl⟩ := hown9.shape
  have HOWN9 := Lib.hid hown9
  have HPOST9 := Lib.hid hpost9
  clear hown9 hpost9
  go_wp2_with fail
  go_ret
  rw [← HR.out, HM.out]
  exact ⟨_, rfl, HOWN9.out, HPOST9.out⟩

set_option maxHeartbeats 1600000 in
set_option maxRecDepth 100000 in
theorem citem_key0l {N : Int} {w : World} {base b : Nat} {ov sv : Value} {p : Cb} (h : CoreOk N w base b 75 (cbRest p) ov sv p.c) (hbg : p.begun = false) (hz : p.h = Hd.zero) (x : Int) (hx0 : 0 ≤ x) (hx1 : x ≤ 255) (hd : p.c.done = false) (hm : x / 32 = 0) (hl : x % 32 < 28) (hk : p.c.atKey = true) :
    Calls Try.prog 31 #[.pointer (some ⟨b, 0, none⟩), .int .u8 x] w (CbGives w base b ov sv (p.item x)) := by
  have hbl := h.in_.blk.lt
  have HH := Lib.hid h
  have HBG := Lib.hid hbg
  have HZ := Lib.hid hz
  have HD := Lib.hid (coreDone_any p.c w base b _ _ ov sv h.in_)
  have HA := Lib.hid (atKey_any p.c w base b _ _ ov sv h.in_ h.opens (fun c hc => by have := h.parts c hc; have := h.big; omega))
  have HFU := Lib.hid (coreFull_any p.c w base b _ _ ov sv h.in_)
  have HFA := Lib.hid (fun e W (k : Keeps [] w W) => fail_gives e p.c W base b _ _ ov sv (h.keep0 k).in_)
  obtain ⟨g0, g1, g2, g3, g4, g5, g6, g7⟩ := core_facts h.in_
  have hand := pk_and31 hx0 hx1
  clear h hbg hz
  obtain ⟨res, hres⟩ : ∃ res, p.item x = res := ⟨_, rfl⟩
  rw [hres]
  have HR := Lib.hid hres
  clear hres
  have HM := Lib.hid (show p.item x = p.put (p.c.fail 8) by unfold Cb.item; rw [if_neg (show ¬ p.c.done = true by rw [hd]; simp), if_neg (by omega), if_neg (by omega), if_pos (Or.inl ⟨hk, by omega⟩)])
  have hl1 : ¬ 28 ≤ x % 32 := by omega
  have hl2 : (x % 32 == 31) = false := by simp; omega
  have hxb : (x == 255) = false := by simp; omega
  go_enter Try.func31, Try.ntmps31
  go_wp2_with fail
  refine HD.out.mono ?_
  rintro e w' ⟨rfl, rfl⟩
  rw [hd]
  clear hd
  go_wp2_with fail
  refine HA.out.mono ?_
  rintro e w' ⟨rfl, rfl⟩
  rw [hk]
  clear hk
  go_wp2_with fail
  refine (HFA.out 8 w (Keeps.refl _ _)).mono ?_
  rintro e w9 hg9
  have hg9 := CoreGives.cb hg9
  obtain ⟨v9, rfl, hown9, hpost9⟩ := hg9
  obtain ⟨av9, cv9, rfl⟩ := hown9.shape
  have HOWN9 := Lib.hid hown9
  have HPOST9 := Lib.hid hpost9
  clear hown9 hpost9
  go_wp2_with fail
  go_ret
  rw [← HR.out, HM.out]
  exact ⟨_, rfl, HOWN9.out, HPOST9.out⟩

set_option maxHeartbeats 1600000 in
set_option maxRecDepth 100000 in
theorem citem_head0l {N : Int} {w : World} {base b : Nat} {ov sv : Value} {p : Cb} (h : CoreOk N w base b 75 (cbRest p) ov sv p.c) (hbg : p.begun = false) (hz : p.h = Hd.zero) (x : Int) (hx0 : 0 ≤ x) (hx1 : x ≤ 255) (hd : p.c.done = false) (hm : x / 32 = 0) (hl : x % 32 < 28) (hk : p.c.atKey = false) :
    Calls Try.prog 31 #[.pointer (some ⟨b, 0, none⟩), .int .u8 x] w (CbGives w base b ov sv (p.item x)) := by
  have hbl := h.in_.blk.lt
  have HH := Lib.hid h
  have HBG := Lib.hid hbg
  have HZ := Lib.hid hz
  have HD := Lib.hid (coreDone_any p.c w base b _ _ ov sv h.in_)
  have HA := Lib.hid (atKey_any p.c w base b _ _ ov sv h.in_ h.opens (fun c hc => by have := h.parts c hc; have := h.big; omega))
  have HFU := Lib.hid (coreFull_any p.c w base b _ _ ov sv h.in_)
  have HFA := Lib.hid (fun e W (k : Keeps [] w W) => fail_gives e p.c W base b _ _ ov sv (h.keep0 k).in_)
  obtain ⟨g0, g1, g2, g3, g4, g5, g6, g7⟩ := core_facts h.in_
  have hand := pk_and31 hx0 hx1
  clear h hbg hz
  obtain ⟨res, hres⟩ : ∃ res, p.item x = res := ⟨_, rfl⟩
  rw [hres]
  have HR := Lib.hid hres
  clear hres
  have HM := Lib.hid (show p.item x = p.first x by unfold Cb.item; rw [if_neg (show ¬ p.c.done = true by rw [hd]; simp), if_neg (by omega), if_neg (by omega), if_neg (show ¬ (p.c.atKey = true ∧ x / 32 ≠ 3 ∨ x / 32 = 6) by rw [hk]; simp; omega), if_neg (by omega), if_neg (by omega)])
  have hl1 : ¬ 28 ≤ x % 32 := by omega
  have hl2 : (x % 32 == 31) = false := by simp; omega
  have hxb : (x == 255) = false := by simp; omega
  go_enter Try.func31, Try.ntmps31
  go_wp2_with fail
  refine HD.out.mono ?_
  rintro e w' ⟨rfl, rfl⟩
  rw [hd]
  clear hd
  go_wp2_with fail
  refine HA.out.mono ?_
  rintro e w' ⟨rfl, rfl⟩
  rw [hk]
  clear hk
  go_wp2_with fail
  refine (chead_first HH.out HZ.out x (by omega) (by omega) (by omega)).mono ?_
  rintro e w9 hg9
  skip
  obtain ⟨v9, rfl, hown9, hpost9⟩ := hg9
  obtain ⟨av9, cv9, rfl⟩ := hown9.shape
  have HOWN9 := Lib.hid hown9
  have HPOST9 := Lib.hid hpost9
  clear hown9 hpost9
  go_wp2_with fail
  go_ret
  rw [← HR.out, HM.out]
  exact ⟨_, rfl, HOWN9.out, HPOST9.out⟩

set_option maxHeartbeats 1600000 in
set_option maxRecDepth 100000 in
theorem citem_key1l {N : Int} {w : World} {base b : Nat} {ov sv : Value} {p : Cb} (h : CoreOk N w base b 75 (cbRest p) ov sv p.c) (hbg : p.begun = false) (hz : p.h = Hd.zero) (x : Int) (hx0 : 0 ≤ x) (hx1 : x ≤ 255) (hd : p.c.done = false) (hm : x / 32 = 1) (hl : x % 32 < 28) (hk : p.c.atKey = true) :
    Calls Try.prog 31 #[.pointer (some ⟨b, 0, none⟩), .int .u8 x] w (CbGives w base b ov sv (p.item x)) := by
  have hbl := h.in_.blk.lt
  have HH := Lib.hid h
  have HBG := Lib.hid hbg
  have HZ := Lib.hid hz
  have HD := Lib.hid (coreDone_any p.c w base b _ _ ov sv h.in_)
  have HA := Lib.hid (atKey_any p.c w base b _ _ ov sv h.in_ h.opens (fun c hc => by have := h.parts c hc; have := h.big; omega))
  have HFU := Lib.hid (coreFull_any p.c w base b _ _ ov sv h.in_)
  have HFA := Lib.hid (fun e W (k : Keeps [] w W) => fail_gives e p.c W base b _ _ ov sv (h.keep0 k).in_)
  obtain ⟨g0, g1, g2, g3, g4, g5, g6, g7⟩ := core_facts h.in_
  have hand := pk_and31 hx0 hx1
  clear h hbg hz
  obtain ⟨res, hres⟩ : ∃ res, p.item x = res := ⟨_, rfl⟩
  rw [hres]
  have HR := Lib.hid hres
  clear hres
  have HM := Lib.hid (show p.item x = p.put (p.c.fail 8) by unfold Cb.item; rw [if_neg (show ¬ p.c.done = true by rw [hd]; simp), if_neg (by omega), if_neg (by omega), if_pos (Or.inl ⟨hk, by omega⟩)])
  have hl1 : ¬ 28 ≤ x % 32 := by omega
  have hl2 : (x % 32 == 31) = false := by simp; omega
  have hxb : (x == 255) = false := by simp; omega
  go_enter Try.func31, Try.ntmps31
  go_wp2_with fail
  refine HD.out.mono ?_
  rintro e w' ⟨rfl, rfl⟩
  rw [hd]
  clear hd
  go_wp2_with fail
  refine HA.out.mono ?_
  rintro e w' ⟨rfl, rfl⟩
  rw [hk]
  clear hk
  go_wp2_with fail
  refine (HFA.out 8 w (Keeps.refl _ _)).mono ?_
  rintro e w9 hg9
  have hg9 := CoreGives.cb hg9
  obtain ⟨v9, rfl, hown9, hpost9⟩ := hg9
  obtain ⟨av9, cv9, rfl⟩ := hown9.shape
  have HOWN9 := Lib.hid hown9
  have HPOST9 := Lib.hid hpost9
  clear hown9 hpost9
  go_wp2_with fail
  go_ret
  rw [← HR.out, HM.out]
  exact ⟨_, rfl, HOWN9.out, HPOST9.out⟩

set_option maxHeartbeats 1600000 in
set_option maxRecDepth 100000 in
theorem citem_head1l {N : Int} {w : World} {base b : Nat} {ov sv : Value} {p : Cb} (h : CoreOk N w base b 75 (cbRest p) ov sv p.c) (hbg : p.begun = false) (hz : p.h = Hd.zero) (x : Int) (hx0 : 0 ≤ x) (hx1 : x ≤ 255) (hd : p.c.done = false) (hm : x / 32 = 1) (hl : x % 32 < 28) (hk : p.c.atKey = false) :
    Calls Try.prog 31 #[.pointer (some ⟨b, 0, none⟩), .int .u8 x] w (CbGives w base b ov sv (p.item x)) := by
  have hbl := h.in_.blk.lt
  have HH := Lib.hid h
  have HBG := Lib.hid hbg
  have HZ := Lib.hid hz
  have HD := Lib.hid (coreDone_any p.c w base b _ _ ov sv h.in_)
  have HA := Lib.hid (atKey_any p.c w base b _ _ ov sv h.in_ h.opens (fun c hc => by have := h.parts c hc; have := h.big; omega))
  have HFU := Lib.hid (coreFull_any p.c w base b _ _ ov sv h.in_)
  have HFA := Lib.hid (fun e W (k : Keeps [] w W) => fail_gives e p.c W base b _ _ ov sv (h.keep0 k).in_)
  obtain ⟨g0, g1, g2, g3, g4, g5, g6, g7⟩ := core_facts h.in_
  have hand := pk_and31 hx0 hx1
  clear h hbg hz
  obtain ⟨res, hres⟩ : ∃ res, p.item x = res := ⟨_, rfl⟩
  rw [hres]
  have HR := Lib.hid hres
  clear hres
  have HM := Lib.hid (show p.item x = p.first x by unfold Cb.item; rw [if_neg (show ¬ p.c.done = true by rw [hd]; simp), if_neg (by omega), if_neg (by omega), if_neg (show ¬ (p.c.atKey = true ∧ x / 32 ≠ 3 ∨ x / 32 = 6) by rw [hk]; simp; omega), if_neg (by omega), if_neg (by omega)])
  have hl1 : ¬ 28 ≤ x % 32 := by omega
  have hl2 : (x % 32 == 31) = false := by simp; omega
  have hxb : (x == 255) = false := by simp; omega
  go_enter Try.func31, Try.ntmps31
  go_wp2_with fail
  refine HD.out.mono ?_
  rintro e w' ⟨rfl, rfl⟩
  rw [hd]
  clear hd
  go_wp2_with fail
  refine HA.out.mono ?_
  rintro e w' ⟨rfl, rfl⟩
  rw [hk]
  clear hk
  go_wp2_with fail
  refine (chead_first HH.out HZ.out x (by omega) (by omega) (by omega)).mono ?_
  rintro e w9 hg9
  skip
  obtain ⟨v9, rfl, hown9, hpost9⟩ := hg9
  obtain ⟨av9, cv9, rfl⟩ := hown9.shape
  have HOWN9 := Lib.hid hown9
  have HPOST9 := Lib.hid hpost9
  clear hown9 hpost9
  go_wp2_with fail
  go_ret
  rw [← HR.out, HM.out]
  exact ⟨_, rfl, HOWN9.out, HPOST9.out⟩

set_option maxHeartbeats 1600000 in
set_option maxRecDepth 100000 in
theorem citem_key2l {N : Int} {w : World} {base b : Nat} {ov sv : Value} {p : Cb} (h : CoreOk N w base b 75 (cbRest p) ov sv p.c) (hbg : p.begun = false) (hz : p.h = Hd.zero) (x : Int) (hx0 : 0 ≤ x) (hx1 : x ≤ 255) (hd : p.c.done = false) (hm : x / 32 = 2) (hl : x % 32 < 28) (hk : p.c.atKey = true) :
    Calls Try.prog 31 #[.pointer (some ⟨b, 0, none⟩), .int .u8 x] w (CbGives w base b ov sv (p.item x)) := by
  have hbl := h.in_.blk.lt
  have HH := Lib.hid h
  have HBG := Lib.hid hbg
  have HZ := Lib.hid hz
  have HD := Lib.hid (coreDone_any p.c w base b _ _ ov sv h.in_)
  have HA := Lib.hid (atKey_any p.c w base b _ _ ov sv h.in_ h.opens (fun c hc => by have := h.parts c hc; have := h.big; omega))
  have HFU := Lib.hid (coreFull_any p.c w base b _ _ ov sv h.in_)
  have HFA := Lib.hid (fun e W (k : Keeps [] w W) => fail_gives e p.c W base b _ _ ov sv (h.keep0 k).in_)
  obtain ⟨g0, g1, g2, g3, g4, g5, g6, g7⟩ := core_facts h.in_
  have hand := pk_and31 hx0 hx1
  clear h hbg hz
  obtain ⟨res, hres⟩ : ∃ res, p.item x = res := ⟨_, rfl⟩
  rw [hres]
  have HR := Lib.hid hres
  clear hres
  have HM := Lib.hid (show p.item x = p.put (p.c.fail 8) by unfold Cb.item; rw [if_neg (show ¬ p.c.done = true by rw [hd]; simp), if_neg (by omega), if_neg (by omega), if_pos (Or.inl ⟨hk, by omega⟩)])
  have hl1 : ¬ 28 ≤ x % 32 := by omega
  have hl2 : (x % 32 == 31) = false := by simp; omega
  have hxb : (x == 255) = false := by simp; omega
  go_enter Try.func31, Try.ntmps31
  go_wp2_with fail
  refine HD.out.mono ?_
  rintro e w' ⟨rfl, rfl⟩
  rw [hd]
  clear hd
  go_wp2_with fail
  refine HA.out.mono ?_
  rintro e w' ⟨rfl, rfl⟩
  rw [hk]
  clear hk
  go_wp2_with fail
  refine (HFA.out 8 w (Keeps.refl _ _)).mono ?_
  rintro e w9 hg9
  have hg9 := CoreGives.cb hg9
  obtain ⟨v9, rfl, hown9, hpost9⟩ := hg9
  obtain ⟨av9, cv9, rfl⟩ := hown9.shape
  have HOWN9 := Lib.hid hown9
  have HPOST9 := Lib.hid hpost9
  clear hown9 hpost9
  go_wp2_with fail
  go_ret
  rw [← HR.out, HM.out]
  exact ⟨_, rfl, HOWN9.out, HPOST9.out⟩

set_option maxHeartbeats 1600000 in
set_option maxRecDepth 100000 in
theorem citem_head2l {N : Int} {w : World} {base b : Nat} {ov sv : Value} {p : Cb} (h : CoreOk N w base b 75 (cbRest p) ov sv p.c) (hbg : p.begun = false) (hz : p.h = Hd.zero) (x : Int) (hx0 : 0 ≤ x) (hx1 : x ≤ 255) (hd : p.c.done = false) (hm : x / 32 = 2) (hl : x % 32 < 28) (hk : p.c.atKey = false) :
    Calls Try.prog 31 #[.pointer (some ⟨b, 0, none⟩), .int .u8 x] w (CbGives w base b ov sv (p.item x)) := by
  have hbl := h.in_.blk.lt
  have HH := Lib.hid h
  have HBG := Lib.hid hbg
  have HZ := Lib.hid hz
  have HD := Lib.hid (coreDone_any p.c w base b _ _ ov sv h.in_)
  have HA := Lib.hid (atKey_any p.c w base b _ _ ov sv h.in_ h.opens (fun c hc => by have := h.parts c hc; have := h.big; omega))
  have HFU := Lib.hid (coreFull_any p.c w base b _ _ ov sv h.in_)
  have HFA := Lib.hid (fun e W (k : Keeps [] w W) => fail_gives e p.c W base b _ _ ov sv (h.keep0 k).in_)
  obtain ⟨g0, g1, g2, g3, g4, g5, g6, g7⟩ := core_facts h.in_
  have hand := pk_and31 hx0 hx1
  clear h hbg hz
  obtain ⟨res, hres⟩ : ∃ res, p.item x = res := ⟨_, rfl⟩
  rw [hres]
  have HR := Lib.hid hres
  clear hres
  have HM := Lib.hid (show p.item x = p.first x by unfold Cb.item; rw [if_neg (show ¬ p.c.done = true by rw [hd]; simp), if_neg (by omega), if_neg (by omega), if_neg (show ¬ (p.c.atKey = true ∧ x / 32 ≠ 3 ∨ x / 32 = 6) by rw [hk]; simp; omega), if_neg (by omega), if_neg (by omega)])
  have hl1 : ¬ 28 ≤ x % 32 := by omega
  have hl2 : (x % 32 == 31) = false := by simp; omega
  have hxb : (x == 255) = false := by simp; omega
  go_enter Try.func31, Try.ntmps31
  go_wp2_with fail
  refine HD.out.mono ?_
  rintro e w' ⟨rfl, rfl⟩
  rw [hd]
  clear hd
  go_wp2_with fail
  refine HA.out.mono ?_
  rintro e w' ⟨rfl, rfl⟩
  rw [hk]
  clear hk
  go_wp2_with fail
  refine (chead_first HH.out HZ.out x (by omega) (by omega) (by omega)).mono ?_
  rintro e w9 hg9
  skip
  obtain ⟨v9, rfl, hown9, hpost9⟩ := hg9
  obtain ⟨av9, cv9, rfl⟩ := hown9.shape
  have HOWN9 := Lib.hid hown9
  have HPOST9 := Lib.hid hpost9
  clear hown9 hpost9
  go_wp2_with fail
  go_ret
  rw [← HR.out, HM.out]
  exact ⟨_, rfl, HOWN9.out, HPOST9.out⟩

set_option maxHeartbeats 1600000 in
set_option maxRecDepth 100000 in
theorem citem_key2o {N : Int} {w : World} {base b : Nat} {ov sv : Value} {p : Cb} (h : CoreOk N w base b 75 (cbRest p) ov sv p.c) (hbg : p.begun = false) (hz : p.h = Hd.zero) (x : Int) (hx0 : 0 ≤ x) (hx1 : x ≤ 255) (hd : p.c.done = false) (hx : x = 95) (hk : p.c.atKey = true) :
    Calls Try.prog 31 #[.pointer (some ⟨b, 0, none⟩), .int .u8 x] w (CbGives w base b ov sv (p.item x)) := by
  have hbl := h.in_.blk.lt
  have HH := Lib.hid h
  have HBG := Lib.hid hbg
  have HZ := Lib.hid hz
  have HD := Lib.hid (coreDone_any p.c w base b _ _ ov sv h.in_)
  have HA := Lib.hid (atKey_any p.c w base b _ _ ov sv h.in_ h.opens (fun c hc => by have := h.parts c hc; have := h.big; omega))
  have HFU := Lib.hid (coreFull_any p.c w base b _ _ ov sv h.in_)
  have HFA := Lib.hid (fun e W (k : Keeps [] w W) => fail_gives e p.c W base b _ _ ov sv (h.keep0 k).in_)
  obtain ⟨g0, g1, g2, g3, g4, g5, g6, g7⟩ := core_facts h.in_
  have hand := pk_and31 hx0 hx1
  clear h hbg hz
  obtain ⟨res, hres⟩ : ∃ res, p.item x = res := ⟨_, rfl⟩
  rw [hres]
  have HR := Lib.hid hres
  clear hres
  have HM := Lib.hid (show p.item x = p.put (p.c.fail 8) by unfold Cb.item; rw [if_neg (show ¬ p.c.done = true by rw [hd]; simp), if_neg (by omega), if_neg (by omega), if_pos (Or.inl ⟨hk, by omega⟩)])
  subst hx
  go_enter Try.func31, Try.ntmps31
  go_wp2_with fail
  refine HD.out.mono ?_
  rintro e w' ⟨rfl, rfl⟩
  rw [hd]
  clear hd
  go_wp2_with fail
  refine HA.out.mono ?_
  rintro e w' ⟨rfl, rfl⟩
  rw [hk]
  clear hk
  go_wp2_with fail
  refine (HFA.out 8 w (Keeps.refl _ _)).mono ?_
  rintro e w9 hg9
  have hg9 := CoreGives.cb hg9
  obtain ⟨v9, rfl, hown9, hpost9⟩ := hg9
  obtain ⟨av9, cv9, rfl⟩ := hown9.shape
  have HOWN9 := Lib.hid hown9
  have HPOST9 := Lib.hid hpost9
  clear hown9 hpost9
  go_wp2_with fail
  go_ret
  rw [← HR.out, HM.out]
  exact ⟨_, rfl, HOWN9.out, HPOST9.out⟩

set_option maxHeartbeats 1600000 in
set_option maxRecDepth 100000 in
theorem citem_head2o {N : Int} {w : World} {base b : Nat} {ov sv : Value} {p : Cb} (h : CoreOk N w base b 75 (cbRest p) ov sv p.c) (hbg : p.begun = false) (hz : p.h = Hd.zero) (x : Int) (hx0 : 0 ≤ x) (hx1 : x ≤ 255) (hd : p.c.done = false) (hx : x = 95) (hk : p.c.atKey = false) :
    Calls Try.prog 31 #[.pointer (some ⟨b, 0, none⟩), .int .u8 x] w (CbGives w base b ov sv (p.item x)) := by
  have hbl := h.in_.blk.lt
  have HH := Lib.hid h
  have HBG := Lib.hid hbg
  have HZ := Lib.hid hz
  have HD := Lib.hid (coreDone_any p.c w base b _ _ ov sv h.in_)
  have HA := Lib.hid (atKey_any p.c w base b _ _ ov sv h.in_ h.opens (fun c hc => by have := h.parts c hc; have := h.big; omega))
  have HFU := Lib.hid (coreFull_any p.c w base b _ _ ov sv h.in_)
  have HFA := Lib.hid (fun e W (k : Keeps [] w W) => fail_gives e p.c W base b _ _ ov sv (h.keep0 k).in_)
  obtain ⟨g0, g1, g2, g3, g4, g5, g6, g7⟩ := core_facts h.in_
  have hand := pk_and31 hx0 hx1
  clear h hbg hz
  obtain ⟨res, hres⟩ : ∃ res, p.item x = res := ⟨_, rfl⟩
  rw [hres]
  have HR := Lib.hid hres
  clear hres
  have HM := Lib.hid (show p.item x = p.first x by unfold Cb.item; rw [if_neg (show ¬ p.c.done = true by rw [hd]; simp), if_neg (by omega), if_neg (by omega), if_neg (show ¬ (p.c.atKey = true ∧ x / 32 ≠ 3 ∨ x / 32 = 6) by rw [hk]; simp; omega), if_neg (by omega), if_neg (by omega)])
  subst hx
  go_enter Try.func31, Try.ntmps31
  go_wp2_with fail
  refine HD.out.mono ?_
  rintro e w' ⟨rfl, rfl⟩
  rw [hd]
  clear hd
  go_wp2_with fail
  refine HA.out.mono ?_
  rintro e w' ⟨rfl, rfl⟩
  rw [hk]
  clear hk
  go_wp2_with fail
  refine (chead_first HH.out HZ.out 95 (by omega) (by omega) (by omega)).mono ?_
  rintro e w9 hg9
  skip
  obtain ⟨v9, rfl, hown9, hpost9⟩ := hg9
  obtain ⟨av9, cv9, rfl⟩ := hown9.shape
  have HOWN9 := Lib.hid hown9
  have HPOST9 := Lib.hid hpost9
  clear hown9 hpost9
  go_wp2_with fail
  go_ret
  rw [← HR.out, HM.out]
  exact ⟨_, rfl, HOWN9.out, HPOST9.out⟩

set_option maxHeartbeats 1600000 in
set_option maxRecDepth 100000 in
theorem citem_head3l {N : Int} {w : World} {base b : Nat} {ov sv : Value} {p : Cb} (h : CoreOk N w base b 75 (cbRest p) ov sv p.c) (hbg : p.begun = false) (hz : p.h = Hd.zero) (x : Int) (hx0 : 0 ≤ x) (hx1 : x ≤ 255) (hd : p.c.done = false) (hm : x / 32 = 3) (hl : x % 32 < 28) (hk : p.c.atKey = false) :
    Calls Try.prog 31 #[.pointer (some ⟨b, 0, none⟩), .int .u8 x] w (CbGives w base b ov sv (p.item x)) := by
  have hbl := h.in_.blk.lt
  have HH := Lib.hid h
  have HBG := Lib.hid hbg
  have HZ := Lib.hid hz
  have HD := Lib.hid (coreDone_any p.c w base b _ _ ov sv h.in_)
  have HA := Lib.hid (atKey_any p.c w base b _ _ ov sv h.in_ h.opens (fun c hc => by have := h.parts c hc; have := h.big; omega))
  have HFU := Lib.hid (coreFull_any p.c w base b _ _ ov sv h.in_)
  have HFA := Lib.hid (fun e W (k : Keeps [] w W) => fail_gives e p.c W base b _ _ ov sv (h.keep0 k).in_)
  obtain ⟨g0, g1, g2, g3, g4, g5, g6, g7⟩ := core_facts h.in_
  have hand := pk_and31 hx0 hx1
  clear h hbg hz
  obtain ⟨res, hres⟩ : ∃ res, p.item x = res := ⟨_, rfl⟩
  rw [hres]
  have HR := Lib.hid hres
  clear hres
  have HM := Lib.hid (show p.item x = p.first x by unfold Cb.item; rw [if_neg (show ¬ p.c.done = true by rw [hd]; simp), if_neg (by omega), if_neg (by omega), if_neg (show ¬ (p.c.atKey = true ∧ x / 32 ≠ 3 ∨ x / 32 = 6) by rw [hk]; simp; omega), if_neg (by omega), if_neg (by omega)])
  have hl1 : ¬ 28 ≤ x % 32 := by omega
  have hl2 : (x % 32 == 31) = false := by simp; omega
  have hxb : (x == 255) = false := by simp; omega
  go_enter Try.func31, Try.ntmps31
  go_wp2_with fail
  refine HD.out.mono ?_
  rintro e w' ⟨rfl, rfl⟩
  rw [hd]
  clear hd
  go_wp2_with fail
  refine HA.out.mono ?_
  rintro e w' ⟨rfl, rfl⟩
  rw [hk]
  clear hk
  go_wp2_with fail
  refine (chead_first HH.out HZ.out x (by omega) (by omega) (by omega)).mono ?_
  rintro e w9 hg9
  skip
  obtain ⟨v9, rfl, hown9, hpost9⟩ := hg9
  obtain ⟨av9, cv9, rfl⟩ := hown9.shape
  have HOWN9 := Lib.hid hown9
  have HPOST9 := Lib.hid hpost9
  clear hown9 hpost9
  go_wp2_with fail
  go_ret
  rw [← HR.out, HM.out]
  exact ⟨_, rfl, HOWN9.out, HPOST9.out⟩

set_option maxHeartbeats 1600000 in
set_option maxRecDepth 100000 in
theorem citem_hkey3l {N : Int} {w : World} {base b : Nat} {ov sv : Value} {p : Cb} (h : CoreOk N w base b 75 (cbRest p) ov sv p.c) (hbg : p.begun = false) (hz : p.h = Hd.zero) (x : Int) (hx0 : 0 ≤ x) (hx1 : x ≤ 255) (hd : p.c.done = false) (hm : x / 32 = 3) (hl : x % 32 < 28) (hk : p.c.atKey = true) :
    Calls Try.prog 31 #[.pointer (some ⟨b, 0, none⟩), .int .u8 x] w (CbGives w base b ov sv (p.item x)) := by
  have hbl := h.in_.blk.lt
  have HH := Lib.hid h
  have HBG := Lib.hid hbg
  have HZ := Lib.hid hz
  have HD := Lib.hid (coreDone_any p.c w base b _ _ ov sv h.in_)
  have HA := Lib.hid (atKey_any p.c w base b _ _ ov sv h.in_ h.opens (fun c hc => by have := h.parts c hc; have := h.big; omega))
  have HFU := Lib.hid (coreFull_any p.c w base b _ _ ov sv h.in_)
  have HFA := Lib.hid (fun e W (k : Keeps [] w W) => fail_gives e p.c W base b _ _ ov sv (h.keep0 k).in_)
  obtain ⟨g0, g1, g2, g3, g4, g5, g6, g7⟩ := core_facts h.in_
  have hand := pk_and31 hx0 hx1
  clear h hbg hz
  obtain ⟨res, hres⟩ : ∃ res, p.item x = res := ⟨_, rfl⟩
  rw [hres]
  have HR := Lib.hid hres
  clear hres
  have HM := Lib.hid (show p.item x = p.first x by unfold Cb.item; rw [if_neg (show ¬ p.c.done = true by rw [hd]; simp), if_neg (by omega), if_neg (by omega), if_neg (show ¬ (p.c.atKey = true ∧ x / 32 ≠ 3 ∨ x / 32 = 6) by omega), if_neg (by omega), if_neg (by omega)])
  have hl1 : ¬ 28 ≤ x % 32 := by omega
  have hl2 : (x % 32 == 31) = false := by simp; omega
  have hxb : (x == 255) = false := by simp; omega
  go_enter Try.func31, Try.ntmps31
  go_wp2_with fail
  refine HD.out.mono ?_
  rintro e w' ⟨rfl, rfl⟩
  rw [hd]
  clear hd
  go_wp2_with fail
  refine HA.out.mono ?_
  rintro e w' ⟨rfl, rfl⟩
  rw [hk]
  clear hk
  go_wp2_with fail
  refine (chead_first HH.out HZ.out x (by omega) (by omega) (by omega)).mono ?_
  rintro e w9 hg9
  skip
  obtain ⟨v9, rfl, hown9, hpost9⟩ := hg9
  obtain ⟨av9, cv9, rfl⟩ := hown9.shape
  have HOWN9 := Lib.hid hown9
  have HPOST9 := Lib.hid hpost9
  clear hown9 hpost9
  go_wp2_with fail
  go_ret
  rw [← HR.out, HM.out]
  exact ⟨_, rfl, HOWN9.out, HPOST9.out⟩

set_option maxHeartbeats 1600000 in
set_option maxRecDepth 100000 in
theorem citem_head3o {N : Int} {w : World} {base b : Nat} {ov sv : Value} {p : Cb} (h : CoreOk N w base b 75 (cbRest p) ov sv p.c) (hbg : p.begun = false) (hz : p.h = Hd.zero) (x : Int) (hx0 : 0 ≤ x) (hx1 : x ≤ 255) (hd : p.c.done = false) (hx : x = 127) (hk : p.c.atKey = false) :
    Calls Try.prog 31 #[.pointer (some ⟨b, 0, none⟩), .int .u8 x] w (CbGives w base b ov sv (p.item x)) := by
  have hbl := h.in_.blk.lt
  have HH := Lib.hid h
  have HBG := Lib.hid hbg
  have HZ := Lib.hid hz
  have HD := Lib.hid (coreDone_any p.c w base b _ _ ov sv h.in_)
  have HA := Lib.hid (atKey_any p.c w base b _ _ ov sv h.in_ h.opens (fun c hc => by have := h.parts c hc; have := h.big; omega))
  have HFU := Lib.hid (coreFull_any p.c w base b _ _ ov sv h.in_)
  have HFA := Lib.hid (fun e W (k : Keeps [] w W) => fail_gives e p.c W base b _ _ ov sv (h.keep0 k).in_)
  obtain ⟨g0, g1, g2, g3, g4, g5, g6, g7⟩ := core_facts h.in_
  have hand := pk_and31 hx0 hx1
  clear h hbg hz
  obtain ⟨res, hres⟩ : ∃ res, p.item x = res := ⟨_, rfl⟩
  rw [hres]
  have HR := Lib.hid hres
  clear hres
  have HM := Lib.hid (show p.item x = p.first x by unfold Cb.item; rw [if_neg (show ¬ p.c.done = true by rw [hd]; simp), if_neg (by omega), if_neg (by omega), if_neg (show ¬ (p.c.atKey = true ∧ x / 32 ≠ 3 ∨ x / 32 = 6) by rw [hk]; simp; omega), if_neg (by omega), if_neg (by omega)])
  subst hx
  go_enter Try.func31, Try.ntmps31
  go_wp2_with fail
  refine HD.out.mono ?_
  rintro e w' ⟨rfl, rfl⟩
  rw [hd]
  clear hd
  go_wp2_with fail
  refine HA.out.mono ?_
  rintro e w' ⟨rfl, rfl⟩
  rw [hk]
  clear hk
  go_wp2_with fail
  refine (chead_first HH.out HZ.out 127 (by omega) (by omega) (by omega)).mono ?_
  rintro e w9 hg9
  skip
  obtain ⟨v9, rfl, hown9, hpost9⟩ := hg9
  obtain ⟨av9, cv9, rfl⟩ := hown9.shape
  have HOWN9 := Lib.hid hown9
  have HPOST9 := Lib.hid hpost9
  clear hown9 hpost9
  go_wp2_with fail
  go_ret
  rw [← HR.out, HM.out]
  exact ⟨_, rfl, HOWN9.out, HPOST9.out⟩

set_option maxHeartbeats 1600000 in
set_option maxRecDepth 100000 in
theorem citem_hkey3o {N : Int} {w : World} {base b : Nat} {ov sv : Value} {p : Cb} (h : CoreOk N w base b 75 (cbRest p) ov sv p.c) (hbg : p.begun = false) (hz : p.h = Hd.zero) (x : Int) (hx0 : 0 ≤ x) (hx1 : x ≤ 255) (hd : p.c.done = false) (hx : x = 127) (hk : p.c.atKey = true) :
    Calls Try.prog 31 #[.pointer (some ⟨b, 0, none⟩), .int .u8 x] w (CbGives w base b ov sv (p.item x)) := by
  have hbl := h.in_.blk.lt
  have HH := Lib.hid h
  have HBG := Lib.hid hbg
  have HZ := Lib.hid hz
  have HD := Lib.hid (coreDone_any p.c w base b _ _ ov sv h.in_)
  have HA := Lib.hid (atKey_any p.c w base b _ _ ov sv h.in_ h.opens (fun c hc => by have := h.parts c hc; have := h.big; omega))
  have HFU := Lib.hid (coreFull_any p.c w base b _ _ ov sv h.in_)
  have HFA := Lib.hid (fun e W (k : Keeps [] w W) => fail_gives e p.c W base b _ _ ov sv (h.keep0 k).in_)
  obtain ⟨g0, g1, g2, g3, g4, g5, g6, g7⟩ := core_facts h.in_
  have hand := pk_and31 hx0 hx1
  clear h hbg hz
  obtain ⟨res, hres⟩ : ∃ res, p.item x = res := ⟨_, rfl⟩
  rw [hres]
  have HR := Lib.hid hres
  clear hres
  have HM := Lib.hid (show p.item x = p.first x by unfold Cb.item; rw [if_neg (show ¬ p.c.done = true by rw [hd]; simp), if_neg (by omega), if_neg (by omega), if_neg (show ¬ (p.c.atKey = true ∧ x / 32 ≠ 3 ∨ x / 32 = 6) by omega), if_neg (by omega), if_neg (by omega)])
  subst hx
  go_enter Try.func31, Try.ntmps31
  go_wp2_with fail
  refine HD.out.mono ?_
  rintro e w' ⟨rfl, rfl⟩
  rw [hd]
  clear hd
  go_wp2_with fail
  refine HA.out.mono ?_
  rintro e w' ⟨rfl, rfl⟩
  rw [hk]
  clear hk
  go_wp2_with fail
  refine (chead_first HH.out HZ.out 127 (by omega) (by omega) (by omega)).mono ?_
  rintro e w9 hg9
  skip
  obtain ⟨v9, rfl, hown9, hpost9⟩ := hg9
  obtain ⟨av9, cv9, rfl⟩ := hown9.shape
  have HOWN9 := Lib.hid hown9
  have HPOST9 := Lib.hid hpost9
  clear hown9 hpost9
  go_wp2_with fail
  go_ret
  rw [← HR.out, HM.out]
  exact ⟨_, rfl, HOWN9.out, HPOST9.out⟩

set_option maxHeartbeats 1600000 in
set_option maxRecDepth 100000 in
theorem citem_key4l {N : Int} {w : World} {base b : Nat} {ov sv : Value} {p : Cb} (h : CoreOk N w base b 75 (cbRest p) ov sv p.c) (hbg : p.begun = false) (hz : p.h = Hd.zero) (x : Int) (hx0 : 0 ≤ x) (hx1 : x ≤ 255) (hd : p.c.done = false) (hm : x / 32 = 4) (hl : x % 32 < 28) (hk : p.c.atKey = true) :
    Calls Try.prog 31 #[.pointer (some ⟨b, 0, none⟩), .int .u8 x] w (CbGives w base b ov sv (p.item x)) := by
  have hbl := h.in_.blk.lt
  have HH := Lib.hid h
  have HBG := Lib.hid hbg
  have HZ := Lib.hid hz
  have HD := Lib.hid (coreDone_any p.c w base b _ _ ov sv h.in_)
  have HA := Lib.hid (atKey_any p.c w base b _ _ ov sv h.in_ h.opens (fun c hc => by have := h.parts c hc; have := h.big; omega))
  have HFU := Lib.hid (coreFull_any p.c w base b _ _ ov sv h.in_)
  have HFA := Lib.hid (fun e W (k : Keeps [] w W) => fail_gives e p.c W base b _ _ ov sv (h.keep0 k).in_)
  obtain ⟨g0, g1, g2, g3, g4, g5, g6, g7⟩ := core_facts h.in_
  have hand := pk_and31 hx0 hx1
  clear h hbg hz
  obtain ⟨res, hres⟩ : ∃ res, p.item x = res := ⟨_, rfl⟩
  rw [hres]
  have HR := Lib.hid hres
  clear hres
  have HM := Lib.hid (show p.item x = p.put (p.c.fail 8) by unfold Cb.item; rw [if_neg (show ¬ p.c.done = true by rw [hd]; simp), if_neg (by omega), if_neg (by omega), if_pos (Or.inl ⟨hk, by omega⟩)])
  have hl1 : ¬ 28 ≤ x % 32 := by omega
  have hl2 : (x % 32 == 31) = false := by simp; omega
  have hxb : (x == 255) = false := by simp; omega
  go_enter Try.func31, Try.ntmps31
  go_wp2_with fail
  refine HD.out.mono ?_
  rintro e w' ⟨rfl, rfl⟩
  rw [hd]
  clear hd
  go_wp2_with fail
  refine HA.out.mono ?_
  rintro e w' ⟨rfl, rfl⟩
  rw [hk]
  clear hk
  go_wp2_with fail
  refine (HFA.out 8 w (Keeps.refl _ _)).mono ?_
  rintro e w9 hg9
  have hg9 := CoreGives.cb hg9
  obtain ⟨v9, rfl, hown9, hpost9⟩ := hg9
  obtain ⟨av9, cv9, rfl⟩ := hown9.shape
  have HOWN9 := Lib.hid hown9
  have HPOST9 := Lib.hid hpost9
  clear hown9 hpost9
  go_wp2_with fail
  go_ret
  rw [← HR.out, HM.out]
  exact ⟨_, rfl, HOWN9.out, HPOST9.out⟩

set_option maxHeartbeats 1600000 in
set_option maxRecDepth 100000 in
theorem citem_full4l {N : Int} {w : World} {base b : Nat} {ov sv : Value} {p : Cb} (h : CoreOk N w base b 75 (cbRest p) ov sv p.c) (hbg : p.begun = false) (hz : p.h = Hd.zero) (x : Int) (hx0 : 0 ≤ x) (hx1 : x ≤ 255) (hd : p.c.done = false) (hm : x / 32 = 4) (hl : x % 32 < 28) (hk : p.c.atKey = false) (hf : p.c.full = true) :
    Calls Try.prog 31 #[.pointer (some ⟨b, 0, none⟩), .int .u8 x] w (CbGives w base b ov sv (p.item x)) := by
  have hbl := h.in_.blk.lt
  have HH := Lib.hid h
  have HBG := Lib.hid hbg
  have HZ := Lib.hid hz
  have HD := Lib.hid (coreDone_any p.c w base b _ _ ov sv h.in_)
  have HA := Lib.hid (atKey_any p.c w base b _ _ ov sv h.in_ h.opens (fun c hc => by have := h.parts c hc; have := h.big; omega))
  have HFU := Lib.hid (coreFull_any p.c w base b _ _ ov sv h.in_)
  have HFA := Lib.hid (fun e W (k : Keeps [] w W) => fail_gives e p.c W base b _ _ ov sv (h.keep0 k).in_)
  obtain ⟨g0, g1, g2, g3, g4, g5, g6, g7⟩ := core_facts h.in_
  have hand := pk_and31 hx0 hx1
  clear h hbg hz
  obtain ⟨res, hres⟩ : ∃ res, p.item x = res := ⟨_, rfl⟩
  rw [hres]
  have HR := Lib.hid hres
  clear hres
  have HM := Lib.hid (show p.item x = p.put (p.c.fail 4) by unfold Cb.item; rw [if_neg (show ¬ p.c.done = true by rw [hd]; simp), if_neg (by omega), if_neg (by omega), if_neg (show ¬ (p.c.atKey = true ∧ x / 32 ≠ 3 ∨ x / 32 = 6) by rw [hk]; simp; omega), if_neg (by omega), if_pos ⟨by omega, hf⟩])
  have hl1 : ¬ 28 ≤ x % 32 := by omega
  have hl2 : (x % 32 == 31) = false := by simp; omega
  have hxb : (x == 255) = false := by simp; omega
  go_enter Try.func31, Try.ntmps31
  go_wp2_with fail
  refine HD.out.mono ?_
  rintro e w' ⟨rfl, rfl⟩
  rw [hd]
  clear hd
  go_wp2_with fail
  refine HA.out.mono ?_
  rintro e w' ⟨rfl, rfl⟩
  rw [hk]
  clear hk
  go_wp2_with fail
  refine HFU.out.mono ?_
  rintro e w1 ⟨rfl, k1⟩
  have K1 := Lib.hid k1
  rw [hf]
  clear k1 hf
  go_wp2_with fail
  refine (HFA.out 4 w1 K1.out).mono ?_
  rintro e w9 hg9
  have hg9 := CoreGives.cb hg9
  obtain ⟨v9, rfl, hown9, hpost9⟩ := hg9
  obtain ⟨av9, cv9, rfl⟩ := hown9.shape
  have HOWN9 := Lib.hid hown9
  have HPOST9 := Lib.hid hpost9
  clear hown9 hpost9
  go_wp2_with fail
  go_ret
  rw [← HR.out, HM.out]
  exact CbGives.trans (K1.out.mono (by simp)) (fun i hi => Or.inl hi) ⟨_, rfl, HOWN9.out, HPOST9.out⟩

set_option maxHeartbeats 1600000 in
set_option maxRecDepth 100000 in
theorem citem_box4l {N : Int} {w : World} {base b : Nat} {ov sv : Value} {p : Cb} (h : CoreOk N w base b 75 (cbRest p) ov sv p.c) (hbg : p.begun = false) (hz : p.h = Hd.zero) (x : Int) (hx0 : 0 ≤ x) (hx1 : x ≤ 255) (hd : p.c.done = false) (hm : x / 32 = 4) (hl : x % 32 < 28) (hk : p.c.atKey = false) (hf : p.c.full = false) :
    Calls Try.prog 31 #[.pointer (some ⟨b, 0, none⟩), .int .u8 x] w (CbGives w base b ov sv (p.item x)) := by
  have hbl := h.in_.blk.lt
  have HH := Lib.hid h
  have HBG := Lib.hid hbg
  have HZ := Lib.hid hz
  have HD := Lib.hid (coreDone_any p.c w base b _ _ ov sv h.in_)
  have HA := Lib.hid (atKey_any p.c w base b _ _ ov sv h.in_ h.opens (fun c hc => by have := h.parts c hc; have := h.big; omega))
  have HFU := Lib.hid (coreFull_any p.c w base b _ _ ov sv h.in_)
  have HFA := Lib.hid (fun e W (k : Keeps [] w W) => fail_gives e p.c W base b _ _ ov sv (h.keep0 k).in_)
  obtain ⟨g0, g1, g2, g3, g4, g5, g6, g7⟩ := core_facts h.in_
  have hand := pk_and31 hx0 hx1
  clear h hbg hz
  obtain ⟨res, hres⟩ : ∃ res, p.item x = res := ⟨_, rfl⟩
  rw [hres]
  have HR := Lib.hid hres
  clear hres
  have HM := Lib.hid (show p.item x = p.first x by unfold Cb.item; rw [if_neg (show ¬ p.c.done = true by rw [hd]; simp), if_neg (by omega), if_neg (by omega), if_neg (show ¬ (p.c.atKey = true ∧ x / 32 ≠ 3 ∨ x / 32 = 6) by rw [hk]; simp; omega), if_neg (by omega), if_neg (show ¬ ((x / 32 = 4 ∨ x / 32 = 5) ∧ p.c.full = true) by rw [hf]; simp)])
  have hl1 : ¬ 28 ≤ x % 32 := by omega
  have hl2 : (x % 32 == 31) = false := by simp; omega
  have hxb : (x == 255) = false := by simp; omega
  go_enter Try.func31, Try.ntmps31
  go_wp2_with fail
  refine HD.out.mono ?_
  rintro e w' ⟨rfl, rfl⟩
  rw [hd]
  clear hd
  go_wp2_with fail
  refine HA.out.mono ?_
  rintro e w' ⟨rfl, rfl⟩
  rw [hk]
  clear hk
  go_wp2_with fail
  refine HFU.out.mono ?_
  rintro e w1 ⟨rfl, k1⟩
  have K1 := Lib.hid k1
  rw [hf]
  clear k1 hf
  go_wp2_with fail
  refine (chead_first (HH.out.keep0 K1.out) HZ.out x (by omega) (by omega) (by omega)).mono ?_
  rintro e w9 hg9
  skip
  obtain ⟨v9, rfl, hown9, hpost9⟩ := hg9
  obtain ⟨av9, cv9, rfl⟩ := hown9.shape
  have HOWN9 := Lib.hid hown9
  have HPOST9 := Lib.hid hpost9
  clear hown9 hpost9
  go_wp2_with fail
  go_ret
  rw [← HR.out, HM.out]
  exact CbGives.trans (K1.out.mono (by simp)) (fun i hi => Or.inl hi) ⟨_, rfl, HOWN9.out, HPOST9.out⟩

set_option maxHeartbeats 1600000 in
set_option maxRecDepth 100000 in
theorem citem_key4o {N : Int} {w : World} {base b : Nat} {ov sv : Value} {p : Cb} (h : CoreOk N w base b 75 (cbRest p) ov sv p.c) (hbg : p.begun = false) (hz : p.h = Hd.zero) (x : Int) (hx0 : 0 ≤ x) (hx1 : x ≤ 255) (hd : p.c.done = false) (hx : x = 159) (hk : p.c.atKey = true) :
    Calls Try.prog 31 #[.pointer (some ⟨b, 0, none⟩), .int .u8 x] w (CbGives w base b ov sv (p.item x)) := by
  have hbl := h.in_.blk.lt
  have HH := Lib.hid h
  have HBG := Lib.hid hbg
  have HZ := Lib.hid hz
  have HD := Lib.hid (coreDone_any p.c w base b _ _ ov sv h.in_)
  have HA := Lib.hid (atKey_any p.c w base b _ _ ov sv h.in_ h.opens (fun c hc => by have := h.parts c hc; have := h.big; omega))
  have HFU := Lib.hid (coreFull_any p.c w base b _ _ ov sv h.in_)
  have HFA := Lib.hid (fun e W (k : Keeps [] w W) => fail_gives e p.c W base b _ _ ov sv (h.keep0 k).in_)
  obtain ⟨g0, g1, g2, g3, g4, g5, g6, g7⟩ := core_facts h.in_
  have hand := pk_and31 hx0 hx1
  clear h hbg hz
  obtain ⟨res, hres⟩ : ∃ res, p.item x = res := ⟨_, rfl⟩
  rw [hres]
  have HR := Lib.hid hres
  clear hres
  have HM := Lib.hid (show p.item x = p.put (p.c.fail 8) by unfold Cb.item; rw [if_neg (show ¬ p.c.done = true by rw [hd]; simp), if_neg (by omega), if_neg (by omega), if_pos (Or.inl ⟨hk, by omega⟩)])
  subst hx
  go_enter Try.func31, Try.ntmps31
  go_wp2_with fail
  refine HD.out.mono ?_
  rintro e w' ⟨rfl, rfl⟩
  rw [hd]
  clear hd
  go_wp2_with fail
  refine HA.out.mono ?_
  rintro e w' ⟨rfl, rfl⟩
  rw [hk]
  clear hk
  go_wp2_with fail
  refine (HFA.out 8 w (Keeps.refl _ _)).mono ?_
  rintro e w9 hg9
  have hg9 := CoreGives.cb hg9
  obtain ⟨v9, rfl, hown9, hpost9⟩ := hg9
  obtain ⟨av9, cv9, rfl⟩ := hown9.shape
  have HOWN9 := Lib.hid hown9
  have HPOST9 := Lib.hid hpost9
  clear hown9 hpost9
  go_wp2_with fail
  go_ret
  rw [← HR.out, HM.out]
  exact ⟨_, rfl, HOWN9.out, HPOST9.out⟩

set_option maxHeartbeats 1600000 in
set_option maxRecDepth 100000 in
theorem citem_full4o {N : Int} {w : World} {base b : Nat} {ov sv : Value} {p : Cb} (h : CoreOk N w base b 75 (cbRest p) ov sv p.c) (hbg : p.begun = false) (hz : p.h = Hd.zero) (x : Int) (hx0 : 0 ≤ x) (hx1 : x ≤ 255) (hd : p.c.done = false) (hx : x = 159) (hk : p.c.atKey = false) (hf : p.c.full = true) :
    Calls Try.prog 31 #[.pointer (some ⟨b, 0, none⟩), .int .u8 x] w (CbGives w base b ov sv (p.item x)) := by
  have hbl := h.in_.blk.lt
  have HH := Lib.hid h
  have HBG := Lib.hid hbg
  have HZ := Lib.hid hz
  have HD := Lib.hid (coreDone_any p.c w base b _ _ ov sv h.in_)
  have HA := Lib.hid (atKey_any p.c w base b _ _ ov sv h.in_ h.opens (fun c hc => by have := h.parts c hc; have := h.big; omega))
  have HFU := Lib.hid (coreFull_any p.c w base b _ _ ov sv h.in_)
  have HFA := Lib.hid (fun e W (k : Keeps [] w W) => fail_gives e p.c W base b _ _ ov sv (h.keep0 k).in_)
  obtain ⟨g0, g1, g2, g3, g4, g5, g6, g7⟩ := core_facts h.in_
  have hand := pk_and31 hx0 hx1
  clear h hbg hz
  obtain ⟨res, hres⟩ : ∃ res, p.item x = res := ⟨_, rfl⟩
  rw [hres]
  have HR := Lib.hid hres
  clear hres
  have HM := Lib.hid (show p.item x = p.put (p.c.fail 4) by unfold Cb.item; rw [if_neg (show ¬ p.c.done = true by rw [hd]; simp), if_neg (by omega), if_neg (by omega), if_neg (show ¬ (p.c.atKey = true ∧ x / 32 ≠ 3 ∨ x / 32 = 6) by rw [hk]; simp; omega), if_neg (by omega), if_pos ⟨by omega, hf⟩])
  subst hx
  go_enter Try.func31, Try.ntmps31
  go_wp2_with fail
  refine HD.out.mono ?_
  rintro e w' ⟨rfl, rfl⟩
  rw [hd]
  clear hd
  go_wp2_with fail
  refine HA.out.mono ?_
  rintro e w' ⟨rfl, rfl⟩
  rw [hk]
  clear hk
  go_wp2_with fail
  refine HFU.out.mono ?_
  rintro e w1 ⟨rfl, k1⟩
  have K1 := Lib.hid k1
  rw [hf]
  clear k1 hf
  go_wp2_with fail
  refine (HFA.out 4 w1 K1.out).mono ?_
  rintro e w9 hg9
  have hg9 := CoreGives.cb hg9
  obtain ⟨v9, rfl, hown9, hpost9⟩ := hg9
  obtain ⟨av9, cv9, rfl⟩ := hown9.shape
  have HOWN9 := Lib.hid hown9
  have HPOST9 := Lib.hid hpost9
  clear hown9 hpost9
  go_wp2_with fail
  go_ret
  rw [← HR.out, HM.out]
  exact CbGives.trans (K1.out.mono (by simp)) (fun i hi => Or.inl hi) ⟨_, rfl, HOWN9.out, HPOST9.out⟩

set_option maxHeartbeats 1600000 in
set_option maxRecDepth 100000 in
theorem citem_box4o {N : Int} {w : World} {base b : Nat} {ov sv : Value} {p : Cb} (h : CoreOk N w base b 75 (cbRest p) ov sv p.c) (hbg : p.begun = false) (hz : p.h = Hd.zero) (x : Int) (hx0 : 0 ≤ x) (hx1 : x ≤ 255) (hd : p.c.done = false) (hx : x = 159) (hk : p.c.atKey = false) (hf : p.c.full = false) :
    Calls Try.prog 31 #[.pointer (some ⟨b, 0, none⟩), .int .u8 x] w (CbGives w base b ov sv (p.item x)) := by
  have hbl := h.in_.blk.lt
  have HH := Lib.hid h
  have HBG := Lib.hid hbg
  have HZ := Lib.hid hz
  have HD := Lib.hid (coreDone_any p.c w base b _ _ ov sv h.in_)
  have HA := Lib.hid (atKey_any p.c w base b _ _ ov sv h.in_ h.opens (fun c hc => by have := h.parts c hc; have := h.big; omega))
  have HFU := Lib.hid (coreFull_any p.c w base b _ _ ov sv h.in_)
  have HFA := Lib.hid (fun e W (k : Keeps [] w W) => fail_gives e p.c W base b _ _ ov sv (h.keep0 k).in_)
  obtain ⟨g0, g1, g2, g3, g4, g5, g6, g7⟩ := core_facts h.in_
  have hand := pk_and31 hx0 hx1
  clear h hbg hz
  obtain ⟨res, hres⟩ : ∃ res, p.item x = res := ⟨_, rfl⟩
  rw [hres]
  have HR := Lib.hid hres
  clear hres
  have HM := Lib.hid (show p.item x = p.first x by unfold Cb.item; rw [if_neg (show ¬ p.c.done = true by rw [hd]; simp), if_neg (by omega), if_neg (by omega), if_neg (show ¬ (p.c.atKey = true ∧ x / 32 ≠ 3 ∨ x / 32 = 6) by rw [hk]; simp; omega), if_neg (by omega), if_neg (show ¬ ((x / 32 = 4 ∨ x / 32 = 5) ∧ p.c.full = true) by rw [hf]; simp)])
  subst hx
  go_enter Try.func31, Try.ntmps31
  go_wp2_with fail
  refine HD.out.mono ?_
  rintro e w' ⟨rfl, rfl⟩
  rw [hd]
  clear hd
  go_wp2_with fail
  refine HA.out.mono ?_
  rintro e w' ⟨rfl, rfl⟩
  rw [hk]
  clear hk
  go_wp2_with fail
  refine HFU.out.mono ?_
  rintro e w1 ⟨rfl, k1⟩
  have K1 := Lib.hid k1
  rw [hf]
  clear k1 hf
  go_wp2_with fail
  refine (chead_first (HH.out.keep0 K1.out) HZ.out 159 (by omega) (by omega) (by omega)).mono ?_
  rintro e w9 hg9
  skip
  obtain ⟨v9, rfl, hown9, hpost9⟩ := hg9
  obtain ⟨av9, cv9, rfl⟩ := hown9.shape
  have HOWN9 := Lib.hid hown9
  have HPOST9 := Lib.hid hpost9
  clear hown9 hpost9
  go_wp2_with fail
  go_ret
  rw [← HR.out, HM.out]
  exact CbGives.trans (K1.out.mono (by simp)) (fun i hi => Or.inl hi) ⟨_, rfl, HOWN9.out, HPOST9.out⟩

set_option maxHeartbeats 1600000 in
set_option maxRecDepth 100000 in
theorem citem_key5l {N : Int} {w : World} {base b : Nat} {ov sv : Value} {p : Cb} (h : CoreOk N w base b 75 (cbRest p) ov sv p.c) (hbg : p.begun = false) (hz : p.h = Hd.zero) (x : Int) (hx0 : 0 ≤ x) (hx1 : x ≤ 255) (hd : p.c.done = false) (hm : x / 32 = 5) (hl : x % 32 < 28) (hk : p.c.atKey = true) :
    Calls Try.prog 31 #[.pointer (some ⟨b, 0, none⟩), .int .u8 x] w (CbGives w base b ov sv (p.item x)) := by
  have hbl := h.in_.blk.lt
  have HH := Lib.hid h
  have HBG := Lib.hid hbg
  have HZ := Lib.hid hz
  have HD := Lib.hid (coreDone_any p.c w base b _ _ ov sv h.in_)
  have HA := Lib.hid (atKey_any p.c w base b _ _ ov sv h.in_ h.opens (fun c hc => by have := h.parts c hc; have := h.big; omega))
  have HFU := Lib.hid (coreFull_any p.c w base b _ _ ov sv h.in_)
  have HFA := Lib.hid (fun e W (k : Keeps [] w W) => fail_gives e p.c W base b _ _ ov sv (h.keep0 k).in_)
  obtain ⟨g0, g1, g2, g3, g4, g5, g6, g7⟩ := core_facts h.in_
  have hand := pk_and31 hx0 hx1
  clear h hbg hz
  obtain ⟨res, hres⟩ : ∃ res, p.item x = res := ⟨_, rfl⟩
  rw [hres]
  have HR := Lib.hid hres
  clear hres
  have HM := Lib.hid (show p.item x = p.put (p.c.fail 8) by unfold Cb.item; rw [if_neg (show ¬ p.c.done = true by rw [hd]; simp), if_neg (by omega), if_neg (by omega), if_pos (Or.inl ⟨hk, by omega⟩)])
  have hl1 : ¬ 28 ≤ x % 32 := by omega
  have hl2 : (x % 32 == 31) = false := by simp; omega
  have hxb : (x == 255) = false := by simp; omega
  go_enter Try.func31, Try.ntmps31
  go_wp2_with fail
  refine HD.out.mono ?_
  rintro e w' ⟨rfl, rfl⟩
  rw [hd]
  clear hd
  go_wp2_with fail
  refine HA.out.mono ?_
  rintro e w' ⟨rfl, rfl⟩
  rw [hk]
  clear hk
  go_wp2_with fail
  refine (HFA.out 8 w (Keeps.refl _ _)).mono ?_
  rintro e w9 hg9
  have hg9 := CoreGives.cb hg9
  obtain ⟨v9, rfl, hown9, hpost9⟩ := hg9
  obtain ⟨av9, cv9, rfl⟩ := hown9.shape
  have HOWN9 := Lib.hid hown9
  have HPOST9 := Lib.hid hpost9
  clear hown9 hpost9
  go_wp2_with fail
  go_ret
  rw [← HR.out, HM.out]
  exact ⟨_, rfl, HOWN9.out, HPOST9.out⟩

set_option maxHeartbeats 1600000 in
set_option maxRecDepth 100000 in
theorem citem_full5l {N : Int} {w : World} {base b : Nat} {ov sv : Value} {p : Cb} (h : CoreOk N w base b 75 (cbRest p) ov sv p.c) (hbg : p.begun = false) (hz : p.h = Hd.zero) (x : Int) (hx0 : 0 ≤ x) (hx1 : x ≤ 255) (hd : p.c.done = false) (hm : x / 32 = 5) (hl : x % 32 < 28) (hk : p.c.atKey = false) (hf : p.c.full = true) :
    Calls Try.prog 31 #[.pointer (some ⟨b, 0, none⟩), .int .u8 x] w (CbGives w base b ov sv (p.item x)) := by
  have hbl := h.in_.blk.lt
  have HH := Lib.hid h
  have HBG := Lib.hid hbg
  have HZ := Lib.hid hz
  have HD := Lib.hid (coreDone_any p.c w base b _ _ ov sv h.in_)
  have HA := Lib.hid (atKey_any p.c w base b _ _ ov sv h.in_ h.opens (fun c hc => by have := h.parts c hc; have := h.big; omega))
  have HFU := Lib.hid (coreFull_any p.c w base b _ _ ov sv h.in_)
  have HFA := Lib.hid (fun e W (k : Keeps [] w W) => fail_gives e p.c W base b _ _ ov sv (h.keep0 k).in_)
  obtain ⟨g0, g1, g2, g3, g4, g5, g6, g7⟩ := core_facts h.in_
  have hand := pk_and31 hx0 hx1
  clear h hbg hz
  obtain ⟨res, hres⟩ : ∃ res, p.item x = res := ⟨_, rfl⟩
  rw [hres]
  have HR := Lib.hid hres
  clear hres
  have HM := Lib.hid (show p.item x = p.put (p.c.fail 4) by unfold Cb.item; rw [if_neg (show ¬ p.c.done = true by rw [hd]; simp), if_neg (by omega), if_neg (by omega), if_neg (show ¬ (p.c.atKey = true ∧ x / 32 ≠ 3 ∨ x / 32 = 6) by rw [hk]; simp; omega), if_neg (by omega), if_pos ⟨by omega, hf⟩])
  have hl1 : ¬ 28 ≤ x % 32 := by omega
  have hl2 : (x % 32 == 31) = false := by simp; omega
  have hxb : (x == 255) = false := by simp; omega
  go_enter Try.func31, Try.ntmps31
  go_wp2_with fail
  refine HD.out.mono ?_
  rintro e w' ⟨rfl, rfl⟩
  rw [hd]
  clear hd
  go_wp2_with fail
  refine HA.out.mono ?_
  rintro e w' ⟨rfl, rfl⟩
  rw [hk]
  clear hk
  go_wp2_with fail
  refine HFU.out.mono ?_
  rintro e w1 ⟨rfl, k1⟩
  have K1 := Lib.hid k1
  rw [hf]
  clear k1 hf
  go_wp2_with fail
  refine (HFA.out 4 w1 K1.out).mono ?_
  rintro e w9 hg9
  have hg9 := CoreGives.cb hg9
  obtain ⟨v9, rfl, hown9, hpost9⟩ := hg9
  obtain ⟨av9, cv9, rfl⟩ := hown9.shape
  have HOWN9 := Lib.hid hown9
  have HPOST9 := Lib.hid hpost9
  clear hown9 hpost9
  go_wp2_with fail
  go_ret
  rw [← HR.out, HM.out]
  exact CbGives.trans (K1.out.mono (by simp)) (fun i hi => Or.inl hi) ⟨_, rfl, HOWN9.out, HPOST9.out⟩

set_option maxHeartbeats 1600000 in
set_option maxRecDepth 100000 in
theorem citem_box5l {N : Int} {w : World} {base b : Nat} {ov sv : Value} {p : Cb} (h : CoreOk N w base b 75 (cbRest p) ov sv p.c) (hbg : p.begun = false) (hz : p.h = Hd.zero) (x : Int) (hx0 : 0 ≤ x) (hx1 : x ≤ 255) (hd : p.c.done = false) (hm : x / 32 = 5) (hl : x % 32 < 28) (hk : p.c.atKey = false) (hf : p.c.full = false) :
    Calls Try.prog 31 #[.pointer (some ⟨b, 0, none⟩), .int .u8 x] w (CbGives w base b ov sv (p.item x)) := by
  have hbl := h.in_.blk.lt
  have HH := Lib.hid h
  have HBG := Lib.hid hbg
  have HZ := Lib.hid hz
  have HD := Lib.hid (coreDone_any p.c w base b _ _ ov sv h.in_)
  have HA := Lib.hid (atKey_any p.c w base b _ _ ov sv h.in_ h.opens (fun c hc => by have := h.parts c hc; have := h.big; omega))
  have HFU := Lib.hid (coreFull_any p.c w base b _ _ ov sv h.in_)
  have HFA := Lib.hid (fun e W (k : Keeps [] w W) => fail_gives e p.c W base b _ _ ov sv (h.keep0 k).in_)
  obtain ⟨g0, g1, g2, g3, g4, g5, g6, g7⟩ := core_facts h.in_
  have hand := pk_and31 hx0 hx1
  clear h hbg hz
  obtain ⟨res, hres⟩ : ∃ res, p.item x = res := ⟨_, rfl⟩
  rw [hres]
  have HR := Lib.hid hres
  clear hres
  have HM := Lib.hid (show p.item x = p.first x by unfold Cb.item; rw [if_neg (show ¬ p.c.done = true by rw [hd]; simp), if_neg (by omega), if_neg (by omega), if_neg (show ¬ (p.c.atKey = true ∧ x / 32 ≠ 3 ∨ x / 32 = 6) by rw [hk]; simp; omega), if_neg (by omega), if_neg (show ¬ ((x / 32 = 4 ∨ x / 32 = 5) ∧ p.c.full = true) by rw [hf]; simp)])
  have hl1 : ¬ 28 ≤ x % 32 := by omega
  have hl2 : (x % 32 == 31) = false := by simp; omega
  have hxb : (x == 255) = false := by simp; omega
  go_enter Try.func31, Try.ntmps31
  go_wp2_with fail
  refine HD.out.mono ?_
  rintro e w' ⟨rfl, rfl⟩
  rw [hd]
  clear hd
  go_wp2_with fail
  refine HA.out.mono ?_
  rintro e w' ⟨rfl, rfl⟩
  rw [hk]
  clear hk
  go_wp2_with fail
  refine HFU.out.mono ?_
  rintro e w1 ⟨rfl, k1⟩
  have K1 := Lib.hid k1
  rw [hf]
  clear k1 hf
  go_wp2_with fail
  refine (chead_first (HH.out.keep0 K1.out) HZ.out x (by omega) (by omega) (by omega)).mono ?_
  rintro e w9 hg9
  skip
  obtain ⟨v9, rfl, hown9, hpost9⟩ := hg9
  obtain ⟨av9, cv9, rfl⟩ := hown9.shape
  have HOWN9 := Lib.hid hown9
  have HPOST9 := Lib.hid hpost9
  clear hown9 hpost9
  go_wp2_with fail
  go_ret
  rw [← HR.out, HM.out]
  exact CbGives.trans (K1.out.mono (by simp)) (fun i hi => Or.inl hi) ⟨_, rfl, HOWN9.out, HPOST9.out⟩

set_option maxHeartbeats 1600000 in
set_option maxRecDepth 100000 in
theorem citem_key5o {N : Int} {w : World} {base b : Nat} {ov sv : Value} {p : Cb} (h : CoreOk N w base b 75 (cbRest p) ov sv p.c) (hbg : p.begun = false) (hz : p.h = Hd.zero) (x : Int) (hx0 : 0 ≤ x) (hx1 : x ≤ 255) (hd : p.c.done = false) (hx : x = 191) (hk : p.c.atKey = true) :
    Calls Try.prog 31 #[.pointer (some ⟨b, 0, none⟩), .int .u8 x] w (CbGives w base b ov sv (p.item x)) := by
  have hbl := h.in_.blk.lt
  have HH := Lib.hid h
  have HBG := Lib.hid hbg
  have HZ := Lib.hid hz
  have HD := Lib.hid (coreDone_any p.c w base b _ _ ov sv h.in_)
  have HA := Lib.hid (atKey_any p.c w base b _ _ ov sv h.in_ h.opens (fun c hc => by have := h.parts c hc; have := h.big; omega))
  have HFU := Lib.hid (coreFull_any p.c w base b _ _ ov sv h.in_)
  have HFA := Lib.hid (fun e W (k : Keeps [] w W) => fail_gives e p.c W base b _ _ ov sv (h.keep0 k).in_)
  obtain ⟨g0, g1, g2, g3, g4, g5, g6, g7⟩ := core_facts h.in_
  have hand := pk_and31 hx0 hx1
  clear h hbg hz
  obtain ⟨res, hres⟩ : ∃ res, p.item x = res := ⟨_, rfl⟩
  rw [hres]
  have HR := Lib.hid hres
  clear hres
  have HM := Lib.hid (show p.item x = p.put (p.c.fail 8) by unfold Cb.item; rw [if_neg (show ¬ p.c.done = true by rw [hd]; simp), if_neg (by omega), if_neg (by omega), if_pos (Or.inl ⟨hk, by omega⟩)])
  subst hx
  go_enter Try.func31, Try.ntmps31
  go_wp2_with fail
  refine HD.out.mono ?_
  rintro e w' ⟨rfl, rfl⟩
  rw [hd]
  clear hd
  go_wp2_with fail
  refine HA.out.mono ?_
  rintro e w' ⟨rfl, rfl⟩
  rw [hk]
  clear hk
  go_wp2_with fail
  refine (HFA.out 8 w (Keeps.refl _ _)).mono ?_
  rintro e w9 hg9
  have hg9 := CoreGives.cb hg9
  obtain ⟨v9, rfl, hown9, hpost9⟩ := hg9
  obtain ⟨av9, cv9, rfl⟩ := hown9.shape
  have HOWN9 := Lib.hid hown9
  have HPOST9 := Lib.hid hpost9
  clear hown9 hpost9
  go_wp2_with fail
  go_ret
  rw [← HR.out, HM.out]
  exact ⟨_, rfl, HOWN9.out, HPOST9.out⟩

set_option maxHeartbeats 1600000 in
set_option maxRecDepth 100000 in
theorem citem_full5o {N : Int} {w : World} {base b : Nat} {ov sv : Value} {p : Cb} (h : CoreOk N w base b 75 (cbRest p) ov sv p.c) (hbg : p.begun = false) (hz : p.h = Hd.zero) (x : Int) (hx0 : 0 ≤ x) (hx1 : x ≤ 255) (hd : p.c.done = false) (hx : x = 191) (hk : p.c.atKey = false) (hf : p.c.full = true) :
    Calls Try.prog 31 #[.pointer (some ⟨b, 0, none⟩), .int .u8 x] w (CbGives w base b ov sv (p.item x)) := by
  have hbl := h.in_.blk.lt
  have HH := Lib.hid h
  have HBG := Lib.hid hbg
  have HZ := Lib.hid hz
  have HD := Lib.hid (coreDone_any p.c w base b _ _ ov sv h.in_)
  have HA := Lib.hid (atKey_any p.c w base b _ _ ov sv h.in_ h.opens (fun c hc => by have := h.parts c hc; have := h.big; omega))
  have HFU := Lib.hid (coreFull_any p.c w base b _ _ ov sv h.in_)
  have HFA := Lib.hid (fun e W (k : Keeps [] w W) => fail_gives e p.c W base b _ _ ov sv (h.keep0 k).in_)
  obtain ⟨g0, g1, g2, g3, g4, g5, g6, g7⟩ := core_facts h.in_
  have hand := pk_and31 hx0 hx1
  clear h hbg hz
  obtain ⟨res, hres⟩ : ∃ res, p.item x = res := ⟨_, rfl⟩
  rw [hres]
  have HR := Lib.hid hres
  clear hres
  have HM := Lib.hid (show p.item x = p.put (p.c.fail 4) by unfold Cb.item; rw [if_neg (show ¬ p.c.done = true by rw [hd]; simp), if_neg (by omega), if_neg (by omega), if_neg (show ¬ (p.c.atKey = true ∧ x / 32 ≠ 3 ∨ x / 32 = 6) by rw [hk]; simp; omega), if_neg (by omega), if_pos ⟨by omega, hf⟩])
  subst hx
  go_enter Try.func31, Try.ntmps31
  go_wp2_with fail
  refine HD.out.mono ?_
  rintro e w' ⟨rfl, rfl⟩
  rw [hd]
  clear hd
  go_wp2_with fail
  refine HA.out.mono ?_
  rintro e w' ⟨rfl, rfl⟩
  rw [hk]
  clear hk
  go_wp2_with fail
  refine HFU.out.mono ?_
  rintro e w1 ⟨rfl, k1⟩
  have K1 := Lib.hid k1
  rw [hf]
  clear k1 hf
  go_wp2_with fail
  refine (HFA.out 4 w1 K1.out).mono ?_
  rintro e w9 hg9
  have hg9 := CoreGives.cb hg9
  obtain ⟨v9, rfl, hown9, hpost9⟩ := hg9
  obtain ⟨av9, cv9, rfl⟩ := hown9.shape
  have HOWN9 := Lib.hid hown9
  have HPOST9 := Lib.hid hpost9
  clear hown9 hpost9
  go_wp2_with fail
  go_ret
  rw [← HR.out, HM.out]
  exact CbGives.trans (K1.out.mono (by simp)) (fun i hi => Or.inl hi) ⟨_, rfl, HOWN9.out, HPOST9.out⟩

set_option maxHeartbeats 1600000 in
set_option maxRecDepth 100000 in
theorem citem_box5o {N : Int} {w : World} {base b : Nat} {ov sv : Value} {p : Cb} (h : CoreOk N w base b 75 (cbRest p) ov sv p.c) (hbg : p.begun = false) (hz : p.h = Hd.zero) (x : Int) (hx0 : 0 ≤ x) (hx1 : x ≤ 255) (hd : p.c.done = false) (hx : x = 191) (hk : p.c.atKey = false) (hf : p.c.full = false) :
    Calls Try.prog 31 #[.pointer (some ⟨b, 0, none⟩), .int .u8 x] w (CbGives w base b ov sv (p.item x)) := by
  have hbl := h.in_.blk.lt
  have HH := Lib.hid h
  have HBG := Lib.hid hbg
  have HZ := Lib.hid hz
  have HD := Lib.hid (coreDone_any p.c w base b _ _ ov sv h.in_)
  have HA := Lib.hid (atKey_any p.c w base b _ _ ov sv h.in_ h.opens (fun c hc => by have := h.parts c hc; have := h.big; omega))
  have HFU := Lib.hid (coreFull_any p.c w base b _ _ ov sv h.in_)
  have HFA := Lib.hid (fun e W (k : Keeps [] w W) => fail_gives e p.c W base b _ _ ov sv (h.keep0 k).in_)
  obtain ⟨g0, g1, g2, g3, g4, g5, g6, g7⟩ := core_facts h.in_
  have hand := pk_and31 hx0 hx1
  clear h hbg hz
  obtain ⟨res, hres⟩ : ∃ res, p.item x = res := ⟨_, rfl⟩
  rw [hres]
  have HR := Lib.hid hres
  clear hres
  have HM := Lib.hid (show p.item x = p.first x by unfold Cb.item; rw [if_neg (show ¬ p.c.done = true by rw [hd]; simp), if_neg (by omega), if_neg (by omega), if_neg (show ¬ (p.c.atKey = true ∧ x / 32 ≠ 3 ∨ x / 32 = 6) by rw [hk]; simp; omega), if_neg (by omega), if_neg (show ¬ ((x / 32 = 4 ∨ x / 32 = 5) ∧ p.c.full = true) by rw [hf]; simp)])
  subst hx
  go_enter Try.func31, Try.ntmps31
  go_wp2_with fail
  refine HD.out.mono ?_
  rintro e w' ⟨rfl, rfl⟩
  rw [hd]
  clear hd
  go_wp2_with fail
  refine HA.out.mono ?_
  rintro e w' ⟨rfl, rfl⟩
  rw [hk]
  clear hk
  go_wp2_with fail
  refine HFU.out.mono ?_
  rintro e w1 ⟨rfl, k1⟩
  have K1 := Lib.hid k1
  rw [hf]
  clear k1 hf
  go_wp2_with fail
  refine (chead_first (HH.out.keep0 K1.out) HZ.out 191 (by omega) (by omega) (by omega)).mono ?_
  rintro e w9 hg9
  skip
  obtain ⟨v9, rfl, hown9, hpost9⟩ := hg9
  obtain ⟨av9, cv9, rfl⟩ := hown9.shape
  have HOWN9 := Lib.hid hown9
  have HPOST9 := Lib.hid hpost9
  clear hown9 hpost9
  go_wp2_with fail
  go_ret
  rw [← HR.out, HM.out]
  exact CbGives.trans (K1.out.mono (by simp)) (fun i hi => Or.inl hi) ⟨_, rfl, HOWN9.out, HPOST9.out⟩

set_option maxHeartbeats 1600000 in
set_option maxRecDepth 100000 in
theorem citem_key6l {N : Int} {w : World} {base b : Nat} {ov sv : Value} {p : Cb} (h : CoreOk N w base b 75 (cbRest p) ov sv p.c) (hbg : p.begun = false) (hz : p.h = Hd.zero) (x : Int) (hx0 : 0 ≤ x) (hx1 : x ≤ 255) (hd : p.c.done = false) (hm : x / 32 = 6) (hl : x % 32 < 28) (hk : p.c.atKey = true) :
    Calls Try.prog 31 #[.pointer (some ⟨b, 0, none⟩), .int .u8 x] w (CbGives w base b ov sv (p.item x)) := by
  have hbl := h.in_.blk.lt
  have HH := Lib.hid h
  have HBG := Lib.hid hbg
  have HZ := Lib.hid hz
  have HD := Lib.hid (coreDone_any p.c w base b _ _ ov sv h.in_)
  have HA := Lib.hid (atKey_any p.c w base b _ _ ov sv h.in_ h.opens (fun c hc => by have := h.parts c hc; have := h.big; omega))
  have HFU := Lib.hid (coreFull_any p.c w base b _ _ ov sv h.in_)
  have HFA := Lib.hid (fun e W (k : Keeps [] w W) => fail_gives e p.c W base b _ _ ov sv (h.keep0 k).in_)
  obtain ⟨g0, g1, g2, g3, g4, g5, g6, g7⟩ := core_facts h.in_
  have hand := pk_and31 hx0 hx1
  clear h hbg hz
  obtain ⟨res, hres⟩ : ∃ res, p.item x = res := ⟨_, rfl⟩
  rw [hres]
  have HR := Lib.hid hres
  clear hres
  have HM := Lib.hid (show p.item x = p.put (p.c.fail 8) by unfold Cb.item; rw [if_neg (show ¬ p.c.done = true by rw [hd]; simp), if_neg (by omega), if_neg (by omega), if_pos (Or.inl ⟨hk, by omega⟩)])
  have hl1 : ¬ 28 ≤ x % 32 := by omega
  have hl2 : (x % 32 == 31) = false := by simp; omega
  have hxb : (x == 255) = false := by simp; omega
  go_enter Try.func31, Try.ntmps31
  go_wp2_with fail
  refine HD.out.mono ?_
  rintro e w' ⟨rfl, rfl⟩
  rw [hd]
  clear hd
  go_wp2_with fail
  refine HA.out.mono ?_
  rintro e w' ⟨rfl, rfl⟩
  rw [hk]
  clear hk
  go_wp2_with fail
  refine (HFA.out 8 w (Keeps.refl _ _)).mono ?_
  rintro e w9 hg9
  have hg9 := CoreGives.cb hg9
  obtain ⟨v9, rfl, hown9, hpost9⟩ := hg9
  obtain ⟨av9, cv9, rfl⟩ := hown9.shape
  have HOWN9 := Lib.hid hown9
  have HPOST9 := Lib.hid hpost9
  clear hown9 hpost9
  go_wp2_with fail
  go_ret
  rw [← HR.out, HM.out]
  exact ⟨_, rfl, HOWN9.out, HPOST9.out⟩

set_option maxHeartbeats 1600000 in
set_option maxRecDepth 100000 in
theorem citem_tagl {N : Int} {w : World} {base b : Nat} {ov sv : Value} {p : Cb} (h : CoreOk N w base b 75 (cbRest p) ov sv p.c) (hbg : p.begun = false) (hz : p.h = Hd.zero) (x : Int) (hx0 : 0 ≤ x) (hx1 : x ≤ 255) (hd : p.c.done = false) (hm : x / 32 = 6) (hl : x % 32 < 28) (hk : p.c.atKey = false) :
    Calls Try.prog 31 #[.pointer (some ⟨b, 0, none⟩), .int .u8 x] w (CbGives w base b ov sv (p.item x)) := by
  have hbl := h.in_.blk.lt
  have HH := Lib.hid h
  have HBG := Lib.hid hbg
  have HZ := Lib.hid hz
  have HD := Lib.hid (coreDone_any p.c w base b _ _ ov sv h.in_)
  have HA := Lib.hid (atKey_any p.c w base b _ _ ov sv h.in_ h.opens (fun c hc => by have := h.parts c hc; have := h.big; omega))
  have HFU := Lib.hid (coreFull_any p.c w base b _ _ ov sv h.in_)
  have HFA := Lib.hid (fun e W (k : Keeps [] w W) => fail_gives e p.c W base b _ _ ov sv (h.keep0 k).in_)
  obtain ⟨g0, g1, g2, g3, g4, g5, g6, g7⟩ := core_facts h.in_
  have hand := pk_and31 hx0 hx1
  clear h hbg hz
  obtain ⟨res, hres⟩ : ∃ res, p.item x = res := ⟨_, rfl⟩
  rw [hres]
  have HR := Lib.hid hres
  clear hres
  have HM := Lib.hid (show p.item x = p.put (p.c.fail 8) by unfold Cb.item; rw [if_neg (show ¬ p.c.done = true by rw [hd]; simp), if_neg (by omega), if_neg (by omega), if_pos (Or.inr (by omega))])
  have hl1 : ¬ 28 ≤ x % 32 := by omega
  have hl2 : (x % 32 == 31) = false := by simp; omega
  have hxb : (x == 255) = false := by simp; omega
  go_enter Try.func31, Try.ntmps31
  go_wp2_with fail
  refine HD.out.mono ?_
  rintro e w' ⟨rfl, rfl⟩
  rw [hd]
  clear hd
  go_wp2_with fail
  refine HA.out.mono ?_
  rintro e w' ⟨rfl, rfl⟩
  rw [hk]
  clear hk
  go_wp2_with fail
  refine (HFA.out 8 w (Keeps.refl _ _)).mono ?_
  rintro e w9 hg9
  have hg9 := CoreGives.cb hg9
  obtain ⟨v9, rfl, hown9, hpost9⟩ := hg9
  obtain ⟨av9, cv9, rfl⟩ := hown9.shape
  have HOWN9 := Lib.hid hown9
  have HPOST9 := Lib.hid hpost9
  clear hown9 hpost9
  go_wp2_with fail
  go_ret
  rw [← HR.out, HM.out]
  exact ⟨_, rfl, HOWN9.out, HPOST9.out⟩

set_option maxHeartbeats 1600000 in
set_option maxRecDepth 100000 in
theorem citem_key7l {N : Int} {w : World} {base b : Nat} {ov sv : Value} {p : Cb} (h : CoreOk N w base b 75 (cbRest p) ov sv p.c) (hbg : p.begun = false) (hz : p.h = Hd.zero) (x : Int) (hx0 : 0 ≤ x) (hx1 : x ≤ 255) (hd : p.c.done = false) (hm : x / 32 = 7) (hl : x % 32 < 28) (hk : p.c.atKey = true) :
    Calls Try.prog 31 #[.pointer (some ⟨b, 0, none⟩), .int .u8 x] w (CbGives w base b ov sv (p.item x)) := by
  have hbl := h.in_.blk.lt
  have HH := Lib.hid h
  have HBG := Lib.hid hbg
  have HZ := Lib.hid hz
  have HD := Lib.hid (coreDone_any p.c w base b _ _ ov sv h.in_)
  have HA := Lib.hid (atKey_any p.c w base b _ _ ov sv h.in_ h.opens (fun c hc => by have := h.parts c hc; have := h.big; omega))
  have HFU := Lib.hid (coreFull_any p.c w base b _ _ ov sv h.in_)
  have HFA := Lib.hid (fun e W (k : Keeps [] w W) => fail_gives e p.c W base b _ _ ov sv (h.keep0 k).in_)
  obtain ⟨g0, g1, g2, g3, g4, g5, g6, g7⟩ := core_facts h.in_
  have hand := pk_and31 hx0 hx1
  clear h hbg hz
  obtain ⟨res, hres⟩ : ∃ res, p.item x = res := ⟨_, rfl⟩
  rw [hres]
  have HR := Lib.hid hres
  clear hres
  have HM := Lib.hid (show p.item x = p.put (p.c.fail 8) by unfold Cb.item; rw [if_neg (show ¬ p.c.done = true by rw [hd]; simp), if_neg (by omega), if_neg (by omega), if_pos (Or.inl ⟨hk, by omega⟩)])
  have hl1 : ¬ 28 ≤ x % 32 := by omega
  have hl2 : (x % 32 == 31) = false := by simp; omega
  have hxb : (x == 255) = false := by simp; omega
  go_enter Try.func31, Try.ntmps31
  go_wp2_with fail
  refine HD.out.mono ?_
  rintro e w' ⟨rfl, rfl⟩
  rw [hd]
  clear hd
  go_wp2_with fail
  refine HA.out.mono ?_
  rintro e w' ⟨rfl, rfl⟩
  rw [hk]
  clear hk
  go_wp2_with fail
  refine (HFA.out 8 w (Keeps.refl _ _)).mono ?_
  rintro e w9 hg9
  have hg9 := CoreGives.cb hg9
  obtain ⟨v9, rfl, hown9, hpost9⟩ := hg9
  obtain ⟨av9, cv9, rfl⟩ := hown9.shape
  have HOWN9 := Lib.hid hown9
  have HPOST9 := Lib.hid hpost9
  clear hown9 hpost9
  go_wp2_with fail
  go_ret
  rw [← HR.out, HM.out]
  exact ⟨_, rfl, HOWN9.out, HPOST9.out⟩

set_option maxHeartbeats 1600000 in
set_option maxRecDepth 100000 in
theorem citem_simpl {N : Int} {w : World} {base b : Nat} {ov sv : Value} {p : Cb} (h : CoreOk N w base b 75 (cbRest p) ov sv p.c) (hbg : p.begun = false) (hz : p.h = Hd.zero) (x : Int) (hx0 : 0 ≤ x) (hx1 : x ≤ 255) (hd : p.c.done = false) (hm : x / 32 = 7) (hl : x % 32 < 28) (hk : p.c.atKey = false) :
    Calls Try.prog 31 #[.pointer (some ⟨b, 0, none⟩), .int .u8 x] w (CbGives w base b ov sv (p.item x)) := by
  have hbl := h.in_.blk.lt
  have HH := Lib.hid h
  have HBG := Lib.hid hbg
  have HZ := Lib.hid hz
  have HD := Lib.hid (coreDone_any p.c w base b _ _ ov sv h.in_)
  have HA := Lib.hid (atKey_any p.c w base b _ _ ov sv h.in_ h.opens (fun c hc => by have := h.parts c hc; have := h.big; omega))
  have HFU := Lib.hid (coreFull_any p.c w base b _ _ ov sv h.in_)
  have HFA := Lib.hid (fun e W (k : Keeps [] w W) => fail_gives e p.c W base b _ _ ov sv (h.keep0 k).in_)
  obtain ⟨g0, g1, g2, g3, g4, g5, g6, g7⟩ := core_facts h.in_
  have hand := pk_and31 hx0 hx1
  clear h hbg hz
  obtain ⟨res, hres⟩ : ∃ res, p.item x = res := ⟨_, rfl⟩
  rw [hres]
  have HR := Lib.hid hres
  clear hres
  have HM := Lib.hid (show p.item x = p.simple (x % 32) by unfold Cb.item; rw [if_neg (show ¬ p.c.done = true by rw [hd]; simp), if_neg (by omega), if_neg (by omega), if_neg (show ¬ (p.c.atKey = true ∧ x / 32 ≠ 3 ∨ x / 32 = 6) by rw [hk]; simp; omega), if_pos (by omega)])
  have hl1 : ¬ 28 ≤ x % 32 := by omega
  have hl2 : (x % 32 == 31) = false := by simp; omega
  have hxb : (x == 255) = false := by simp; omega
  have HS := Lib.hid (simple_any HH.out (x % 32) (by omega))
  go_enter Try.func31, Try.ntmps31
  go_wp2_with fail
  refine HD.out.mono ?_
  rintro e w' ⟨rfl, rfl⟩
  rw [hd]
  clear hd
  go_wp2_with fail
  refine HA.out.mono ?_
  rintro e w' ⟨rfl, rfl⟩
  rw [hk]
  clear hk
  go_wp2_with fail
  refine (HS.out).mono ?_
  rintro e w9 hg9
  skip
  obtain ⟨v9, rfl, hown9, hpost9⟩ := hg9
  obtain ⟨av9, cv9, rfl⟩ := hown9.shape
  have HOWN9 := Lib.hid hown9
  have HPOST9 := Lib.hid hpost9
  clear hown9 hpost9
  go_wp2_with fail
  go_ret
  rw [← HR.out, HM.out]
  exact ⟨_, rfl, HOWN9.out, HPOST9.out⟩

theorem citem_any {N : Int} {w : World} {base b : Nat} {ov sv : Value} {p : Cb} (h : CoreOk N w base b 75 (cbRest p) ov sv p.c) (hbg : p.begun = false) (hz : p.h = Hd.zero) (x : Int) (hx0 : 0 ≤ x) (hx1 : x ≤ 255) :
    Calls Try.prog 31 #[.pointer (some ⟨b, 0, none⟩), .int .u8 x] w (CbGives w base b ov sv (p.item x)) := by
  have hw1 : x % 32 < 28 ∨ x % 32 = 28 ∨ x % 32 = 29 ∨ x % 32 = 30 ∨ x % 32 = 31 := by omega
  have hw2 : x / 32 = 0 ∨ x / 32 = 1 ∨ x / 32 = 2 ∨ x / 32 = 3 ∨ x / 32 = 4 ∨ x / 32 = 5 ∨ x / 32 = 6 ∨ x / 32 = 7 := by omega
  cases hd : p.c.done with
  | true => exact citem_done h hbg hz x hx0 hx1 hd
  | false =>
  by_cases c28 : x % 32 = 28
  · exact citem_low28 h hbg hz x hx0 hx1 hd c28
  by_cases c29 : x % 32 = 29
  · exact citem_low29 h hbg hz x hx0 hx1 hd c29
  by_cases c30 : x % 32 = 30
  · exact citem_low30 h hbg hz x hx0 hx1 hd c30
  by_cases o0 : x = 31
  · exact citem_open0 h hbg hz x hx0 hx1 hd o0
  by_cases o1 : x = 63
  · exact citem_open1 h hbg hz x hx0 hx1 hd o1
  by_cases o6 : x = 223
  · exact citem_open6 h hbg hz x hx0 hx1 hd o6
  by_cases o7 : x = 255
  · exact citem_brk h hbg hz x hx0 hx1 hd o7
  by_cases q0 : x / 32 = 0 ∧ x % 32 < 28
  · cases hk : p.c.atKey with
    | true => exact citem_key0l h hbg hz x hx0 hx1 hd q0.1 q0.2 hk
    | false =>
      exact citem_head0l h hbg hz x hx0 hx1 hd q0.1 q0.2 hk
  by_cases q1 : x / 32 = 1 ∧ x % 32 < 28
  · cases hk : p.c.atKey with
    | true => exact citem_key1l h hbg hz x hx0 hx1 hd q1.1 q1.2 hk
    | false =>
      exact citem_head1l h hbg hz x hx0 hx1 hd q1.1 q1.2 hk
  by_cases q2 : x / 32 = 2 ∧ x % 32 < 28
  · cases hk : p.c.atKey with
    | true => exact citem_key2l h hbg hz x hx0 hx1 hd q2.1 q2.2 hk
    | false =>
      exact citem_head2l h hbg hz x hx0 hx1 hd q2.1 q2.2 hk
  by_cases p2 : x = 95
  · cases hk : p.c.atKey with
    | true => exact citem_key2o h hbg hz x hx0 hx1 hd p2 hk
    | false =>
      exact citem_head2o h hbg hz x hx0 hx1 hd p2 hk
  by_cases q3 : x / 32 = 3 ∧ x % 32 < 28
  · cases hk : p.c.atKey with
    | true => exact citem_hkey3l h hbg hz x hx0 hx1 hd q3.1 q3.2 hk
    | false => exact citem_head3l h hbg hz x hx0 hx1 hd q3.1 q3.2 hk
  by_cases p3 : x = 127
  · cases hk : p.c.atKey with
    | true => exact citem_hkey3o h hbg hz x hx0 hx1 hd p3 hk
    | false => exact citem_head3o h hbg hz x hx0 hx1 hd p3 hk
  by_cases q4 : x / 32 = 4 ∧ x % 32 < 28
  · cases hk : p.c.atKey with
    | true => exact citem_key4l h hbg hz x hx0 hx1 hd q4.1 q4.2 hk
    | false =>
      cases hf : p.c.full with
      | true => exact citem_full4l h hbg hz x hx0 hx1 hd q4.1 q4.2 hk hf
      | false => exact citem_box4l h hbg hz x hx0 hx1 hd q4.1 q4.2 hk hf
  by_cases p4 : x = 159
  · cases hk : p.c.atKey with
    | true => exact citem_key4o h hbg hz x hx0 hx1 hd p4 hk
    | false =>
      cases hf : p.c.full with
      | true => exact citem_full4o h hbg hz x hx0 hx1 hd p4 hk hf
      | false => exact citem_box4o h hbg hz x hx0 hx1 hd p4 hk hf
  by_cases q5 : x / 32 = 5 ∧ x % 32 < 28
  · cases hk : p.c.atKey with
    | true => exact citem_key5l h hbg hz x hx0 hx1 hd q5.1 q5.2 hk
    | false =>
      cases hf : p.c.full with
      | true => exact citem_full5l h hbg hz x hx0 hx1 hd q5.1 q5.2 hk hf
      | false => exact citem_box5l h hbg hz x hx0 hx1 hd q5.1 q5.2 hk hf
  by_cases p5 : x = 191
  · cases hk : p.c.atKey with
    | true => exact citem_key5o h hbg hz x hx0 hx1 hd p5 hk
    | false =>
      cases hf : p.c.full with
      | true => exact citem_full5o h hbg hz x hx0 hx1 hd p5 hk hf
      | false => exact citem_box5o h hbg hz x hx0 hx1 hd p5 hk hf
  by_cases q6 : x / 32 = 6 ∧ x % 32 < 28
  · cases hk : p.c.atKey with
    | true => exact citem_key6l h hbg hz x hx0 hx1 hd q6.1 q6.2 hk
    | false =>
      exact citem_tagl h hbg hz x hx0 hx1 hd q6.1 q6.2 hk
  by_cases q7 : x / 32 = 7 ∧ x % 32 < 28
  · cases hk : p.c.atKey with
    | true => exact citem_key7l h hbg hz x hx0 hx1 hd q7.1 q7.2 hk
    | false =>
      exact citem_simpl h hbg hz x hx0 hx1 hd q7.1 q7.2 hk
  exfalso
  rcases hw1 with e | e | e | e | e
  · rcases hw2 with f | f | f | f | f | f | f | f
    · exact q0 ⟨f, e⟩
    · exact q1 ⟨f, e⟩
    · exact q2 ⟨f, e⟩
    · exact q3 ⟨f, e⟩
    · exact q4 ⟨f, e⟩
    · exact q5 ⟨f, e⟩
    · exact q6 ⟨f, e⟩
    · exact q7 ⟨f, e⟩
  · exact c28 e
  · exact c29 e
  · exact c30 e
  · clear q0
    clear q1
    clear q2
    clear q3
    clear q4
    clear q5
    clear q6
    clear q7
    rcases hw2 with f | f | f | f | f | f | f | f
    · exact absurd (show x = 31 from by clear o0 o1 o6 o7 p2 p3 p4 p5; omega) o0
    · exact absurd (show x = 63 from by clear o0 o1 o6 o7 p2 p3 p4 p5; omega) o1
    · exact absurd (show x = 95 from by clear o0 o1 o6 o7 p2 p3 p4 p5; omega) p2
    · exact absurd (show x = 127 from by clear o0 o1 o6 o7 p2 p3 p4 p5; omega) p3
    · exact absurd (show x = 159 from by clear o0 o1 o6 o7 p2 p3 p4 p5; omega) p4
    · exact absurd (show x = 191 from by clear o0 o1 o6 o7 p2 p3 p4 p5; omega) p5
    · exact absurd (show x = 223 from by clear o0 o1 o6 o7 p2 p3 p4 p5; omega) o6
    · exact absurd (show x = 255 from by clear o0 o1 o6 o7 p2 p3 p4 p5; omega) o7

set_option maxHeartbeats 1600000 in
set_option maxRecDepth 100000 in
theorem cchunk_stop_t {N : Int} {w : World} {base b : Nat} {ov sv : Value} {p : Cb} (h : CoreOk N w base b 75 (cbRest p) ov sv p.c) (hbg : p.begun = false) (hz : p.h = Hd.zero) (x : Int) (hx0 : 0 ≤ x) (hx1 : x ≤ 255) (hw : p.c.word = true) (hx : x = 255) :
    Calls Try.prog 30 #[.pointer (some ⟨b, 0, none⟩), .int .u8 x] w (CbGives w base b ov sv (p.chunk x)) := by
  have hbl := h.in_.blk.lt
  have HH := Lib.hid h
  have HBG := Lib.hid hbg
  have HZ := Lib.hid hz
  have HD := Lib.hid (coreDone_any p.c w base b _ _ ov sv h.in_)
  have HA := Lib.hid (atKey_any p.c w base b _ _ ov sv h.in_ h.opens (fun c hc => by have := h.parts c hc; have := h.big; omega))
  have HFU := Lib.hid (coreFull_any p.c w base b _ _ ov sv h.in_)
  have HFA := Lib.hid (fun e W (k : Keeps [] w W) => fail_gives e p.c W base b _ _ ov sv (h.keep0 k).in_)
  obtain ⟨g0, g1, g2, g3, g4, g5, g6, g7⟩ := core_facts h.in_
  have hand := pk_and31 hx0 hx1
  clear h hbg hz
  obtain ⟨res, hres⟩ : ∃ res, p.chunk x = res := ⟨_, rfl⟩
  rw [hres]
  have HR := Lib.hid hres
  clear hres
  have HM := Lib.hid (show p.chunk x = p.put p.c.text by unfold Cb.chunk; rw [if_pos hx])
  subst hx
  rw [hw] at g4
  have HT := Lib.hid (text_any HH.out)
  go_enter Try.func30, Try.ntmps30
  go_wp2_with fail
  refine (HT.out).mono ?_
  rintro e w9 hg9
  have hg9 := CoreGives.cb hg9
  obtain ⟨v9, rfl, hown9, hpost9⟩ := hg9
  obtain ⟨av9, cv9, rfl⟩ := hown9.shape
  have HOWN9 := Lib.hid hown9
  have HPOST9 := Lib.hid hpost9
  clear hown9 hpost9
  go_wp2_with fail
  go_ret
  rw [← HR.out, HM.out]
  exact ⟨_, rfl, HOWN9.out, HPOST9.out⟩

set_option maxHeartbeats 1600000 in
set_option maxRecDepth 100000 in
theorem cchunk_bad_t {N : Int} {w : World} {base b : Nat} {ov sv : Value} {p : Cb} (h : CoreOk N w base b 75 (cbRest p) ov sv p.c) (hbg : p.begun = false) (hz : p.h = Hd.zero) (x : Int) (hx0 : 0 ≤ x) (hx1 : x ≤ 255) (hw : p.c.word = true) (hx : ¬ x = 255) (hm : ¬ x / 32 = 3) :
    Calls Try.prog 30 #[.pointer (some ⟨b, 0, none⟩), .int .u8 x] w (CbGives w base b ov sv (p.chunk x)) := by
  have hbl := h.in_.blk.lt
  have HH := Lib.hid h
  have HBG := Lib.hid hbg
  have HZ := Lib.hid hz
  have HD := Lib.hid (coreDone_any p.c w base b _ _ ov sv h.in_)
  have HA := Lib.hid (atKey_any p.c w base b _ _ ov sv h.in_ h.opens (fun c hc => by have := h.parts c hc; have := h.big; omega))
  have HFU := Lib.hid (coreFull_any p.c w base b _ _ ov sv h.in_)
  have HFA := Lib.hid (fun e W (k : Keeps [] w W) => fail_gives e p.c W base b _ _ ov sv (h.keep0 k).in_)
  obtain ⟨g0, g1, g2, g3, g4, g5, g6, g7⟩ := core_facts h.in_
  have hand := pk_and31 hx0 hx1
  clear h hbg hz
  obtain ⟨res, hres⟩ : ∃ res, p.chunk x = res := ⟨_, rfl⟩
  rw [hres]
  have HR := Lib.hid hres
  clear hres
  have HM := Lib.hid (show p.chunk x = p.put (p.c.fail 2) by unfold Cb.chunk; rw [if_neg hx, if_pos (by rw [hw]; exact Or.inl hm)])
  have hxb : (x == 255) = false := by simpa using hx
  have hmb : (x / 32 != 3) = true := by simpa using hm
  clear hx hm
  rw [hw] at g4
  go_enter Try.func30, Try.ntmps30
  go_wp2_with fail
  refine (HFA.out 2 w (Keeps.refl _ _)).mono ?_
  rintro e w9 hg9
  have hg9 := CoreGives.cb hg9
  obtain ⟨v9, rfl, hown9, hpost9⟩ := hg9
  obtain ⟨av9, cv9, rfl⟩ := hown9.shape
  have HOWN9 := Lib.hid hown9
  have HPOST9 := Lib.hid hpost9
  clear hown9 hpost9
  go_wp2_with fail
  go_ret
  rw [← HR.out, HM.out]
  exact ⟨_, rfl, HOWN9.out, HPOST9.out⟩

set_option maxHeartbeats 1600000 in
set_option maxRecDepth 100000 in
theorem cchunk_open_t {N : Int} {w : World} {base b : Nat} {ov sv : Value} {p : Cb} (h : CoreOk N w base b 75 (cbRest p) ov sv p.c) (hbg : p.begun = false) (hz : p.h = Hd.zero) (x : Int) (hx0 : 0 ≤ x) (hx1 : x ≤ 255) (hw : p.c.word = true) (hx : x = 127) :
    Calls Try.prog 30 #[.pointer (some ⟨b, 0, none⟩), .int .u8 x] w (CbGives w base b ov sv (p.chunk x)) := by
  have hbl := h.in_.blk.lt
  have HH := Lib.hid h
  have HBG := Lib.hid hbg
  have HZ := Lib.hid hz
  have HD := Lib.hid (coreDone_any p.c w base b _ _ ov sv h.in_)
  have HA := Lib.hid (atKey_any p.c w base b _ _ ov sv h.in_ h.opens (fun c hc => by have := h.parts c hc; have := h.big; omega))
  have HFU := Lib.hid (coreFull_any p.c w base b _ _ ov sv h.in_)
  have HFA := Lib.hid (fun e W (k : Keeps [] w W) => fail_gives e p.c W base b _ _ ov sv (h.keep0 k).in_)
  obtain ⟨g0, g1, g2, g3, g4, g5, g6, g7⟩ := core_facts h.in_
  have hand := pk_and31 hx0 hx1
  clear h hbg hz
  obtain ⟨res, hres⟩ : ∃ res, p.chunk x = res := ⟨_, rfl⟩
  rw [hres]
  have HR := Lib.hid hres
  clear hres
  have HM := Lib.hid (show p.chunk x = p.put (p.c.fail 2) by unfold Cb.chunk; rw [if_neg (by omega), if_pos (Or.inr (by omega))])
  subst hx
  rw [hw] at g4
  go_enter Try.func30, Try.ntmps30
  go_wp2_with fail
  refine (HFA.out 2 w (Keeps.refl _ _)).mono ?_
  rintro e w9 hg9
  have hg9 := CoreGives.cb hg9
  obtain ⟨v9, rfl, hown9, hpost9⟩ := hg9
  obtain ⟨av9, cv9, rfl⟩ := hown9.shape
  have HOWN9 := Lib.hid hown9
  have HPOST9 := Lib.hid hpost9
  clear hown9 hpost9
  go_wp2_with fail
  go_ret
  rw [← HR.out, HM.out]
  exact ⟨_, rfl, HOWN9.out, HPOST9.out⟩

set_option maxHeartbeats 1600000 in
set_option maxRecDepth 100000 in
theorem cchunk_head_t {N : Int} {w : World} {base b : Nat} {ov sv : Value} {p : Cb} (h : CoreOk N w base b 75 (cbRest p) ov sv p.c) (hbg : p.begun = false) (hz : p.h = Hd.zero) (x : Int) (hx0 : 0 ≤ x) (hx1 : x ≤ 255) (hw : p.c.word = true) (hm : x / 32 = 3) (hl : ¬ x % 32 = 31) :
    Calls Try.prog 30 #[.pointer (some ⟨b, 0, none⟩), .int .u8 x] w (CbGives w base b ov sv (p.chunk x)) := by
  have hbl := h.in_.blk.lt
  have HH := Lib.hid h
  have HBG := Lib.hid hbg
  have HZ := Lib.hid hz
  have HD := Lib.hid (coreDone_any p.c w base b _ _ ov sv h.in_)
  have HA := Lib.hid (atKey_any p.c w base b _ _ ov sv h.in_ h.opens (fun c hc => by have := h.parts c hc; have := h.big; omega))
  have HFU := Lib.hid (coreFull_any p.c w base b _ _ ov sv h.in_)
  have HFA := Lib.hid (fun e W (k : Keeps [] w W) => fail_gives e p.c W base b _ _ ov sv (h.keep0 k).in_)
  obtain ⟨g0, g1, g2, g3, g4, g5, g6, g7⟩ := core_facts h.in_
  have hand := pk_and31 hx0 hx1
  clear h hbg hz
  obtain ⟨res, hres⟩ : ∃ res, p.chunk x = res := ⟨_, rfl⟩
  rw [hres]
  have HR := Lib.hid hres
  clear hres
  have HM := Lib.hid (show p.chunk x = p.first x by unfold Cb.chunk; rw [if_neg (by omega), if_neg (by rw [hw]; simp; exact ⟨hm, hl⟩)])
  have hxb : (x == 255) = false := by simp; omega
  have hlb : (x % 32 == 31) = false := by simpa using hl
  clear hl
  rw [hw] at g4
  go_enter Try.func30, Try.ntmps30
  go_wp2_with fail
  refine (chead_first HH.out HZ.out x (by omega) (by omega) (by omega)).mono ?_
  rintro e w9 hg9
  skip
  obtain ⟨v9, rfl, hown9, hpost9⟩ := hg9
  obtain ⟨av9, cv9, rfl⟩ := hown9.shape
  have HOWN9 := Lib.hid hown9
  have HPOST9 := Lib.hid hpost9
  clear hown9 hpost9
  go_wp2_with fail
  go_ret
  rw [← HR.out, HM.out]
  exact ⟨_, rfl, HOWN9.out, HPOST9.out⟩

set_option maxHeartbeats 1600000 in
set_option maxRecDepth 100000 in
theorem cchunk_stop_f {N : Int} {w : World} {base b : Nat} {ov sv : Value} {p : Cb} (h : CoreOk N w base b 75 (cbRest p) ov sv p.c) (hbg : p.begun = false) (hz : p.h = Hd.zero) (x : Int) (hx0 : 0 ≤ x) (hx1 : x ≤ 255) (hw : p.c.word = false) (hx : x = 255) :
    Calls Try.prog 30 #[.pointer (some ⟨b, 0, none⟩), .int .u8 x] w (CbGives w base b ov sv (p.chunk x)) := by
  have hbl := h.in_.blk.lt
  have HH := Lib.hid h
  have HBG := Lib.hid hbg
  have HZ := Lib.hid hz
  have HD := Lib.hid (coreDone_any p.c w base b _ _ ov sv h.in_)
  have HA := Lib.hid (atKey_any p.c w base b _ _ ov sv h.in_ h.opens (fun c hc => by have := h.parts c hc; have := h.big; omega))
  have HFU := Lib.hid (coreFull_any p.c w base b _ _ ov sv h.in_)
  have HFA := Lib.hid (fun e W (k : Keeps [] w W) => fail_gives e p.c W base b _ _ ov sv (h.keep0 k).in_)
  obtain ⟨g0, g1, g2, g3, g4, g5, g6, g7⟩ := core_facts h.in_
  have hand := pk_and31 hx0 hx1
  clear h hbg hz
  obtain ⟨res, hres⟩ : ∃ res, p.chunk x = res := ⟨_, rfl⟩
  rw [hres]
  have HR := Lib.hid hres
  clear hres
  have HM := Lib.hid (show p.chunk x = p.put p.c.text by unfold Cb.chunk; rw [if_pos hx])
  subst hx
  rw [hw] at g4
  have HT := Lib.hid (text_any HH.out)
  go_enter Try.func30, Try.ntmps30
  go_wp2_with fail
  refine (HT.out).mono ?_
  rintro e w9 hg9
  have hg9 := CoreGives.cb hg9
  obtain ⟨v9, rfl, hown9, hpost9⟩ := hg9
  obtain ⟨av9, cv9, rfl⟩ := hown9.shape
  have HOWN9 := Lib.hid hown9
  have HPOST9 := Lib.hid hpost9
  clear hown9 hpost9
  go_wp2_with fail
  go_ret
  rw [← HR.out, HM.out]
  exact ⟨_, rfl, HOWN9.out, HPOST9.out⟩

set_option maxHeartbeats 1600000 in
set_option maxRecDepth 100000 in
theorem cchunk_bad_f {N : Int} {w : World} {base b : Nat} {ov sv : Value} {p : Cb} (h : CoreOk N w base b 75 (cbRest p) ov sv p.c) (hbg : p.begun = false) (hz : p.h = Hd.zero) (x : Int) (hx0 : 0 ≤ x) (hx1 : x ≤ 255) (hw : p.c.word = false) (hx : ¬ x = 255) (hm : ¬ x / 32 = 2) :
    Calls Try.prog 30 #[.pointer (some ⟨b, 0, none⟩), .int .u8 x] w (CbGives w base b ov sv (p.chunk x)) := by
  have hbl := h.in_.blk.lt
  have HH := Lib.hid h
  have HBG := Lib.hid hbg
  have HZ := Lib.hid hz
  have HD := Lib.hid (coreDone_any p.c w base b _ _ ov sv h.in_)
  have HA := Lib.hid (atKey_any p.c w base b _ _ ov sv h.in_ h.opens (fun c hc => by have := h.parts c hc; have := h.big; omega))
  have HFU := Lib.hid (coreFull_any p.c w base b _ _ ov sv h.in_)
  have HFA := Lib.hid (fun e W (k : Keeps [] w W) => fail_gives e p.c W base b _ _ ov sv (h.keep0 k).in_)
  obtain ⟨g0, g1, g2, g3, g4, g5, g6, g7⟩ := core_facts h.in_
  have hand := pk_and31 hx0 hx1
  clear h hbg hz
  obtain ⟨res, hres⟩ : ∃ res, p.chunk x = res := ⟨_, rfl⟩
  rw [hres]
  have HR := Lib.hid hres
  clear hres
  have HM := Lib.hid (show p.chunk x = p.put (p.c.fail 2) by unfold Cb.chunk; rw [if_neg hx, if_pos (by rw [hw]; exact Or.inl hm)])
  have hxb : (x == 255) = false := by simpa using hx
  have hmb : (x / 32 != 2) = true := by simpa using hm
  clear hx hm
  rw [hw] at g4
  go_enter Try.func30, Try.ntmps30
  go_wp2_with fail
  refine (HFA.out 2 w (Keeps.refl _ _)).mono ?_
  rintro e w9 hg9
  have hg9 := CoreGives.cb hg9
  obtain ⟨v9, rfl, hown9, hpost9⟩ := hg9
  obtain ⟨av9, cv9, rfl⟩ := hown9.shape
  have HOWN9 := Lib.hid hown9
  have HPOST9 := Lib.hid hpost9
  clear hown9 hpost9
  go_wp2_with fail
  go_ret
  rw [← HR.out, HM.out]
  exact ⟨_, rfl, HOWN9.out, HPOST9.out⟩

set_option maxHeartbeats 1600000 in
set_option maxRecDepth 100000 in
theorem cchunk_open_f {N : Int} {w : World} {base b : Nat} {ov sv : Value} {p : Cb} (h : CoreOk N w base b 75 (cbRest p) ov sv p.c) (hbg : p.begun = false) (hz : p.h = Hd.zero) (x : Int) (hx0 : 0 ≤ x) (hx1 : x ≤ 255) (hw : p.c.word = false) (hx : x = 95) :
    Calls Try.prog 30 #[.pointer (some ⟨b, 0, none⟩), .int .u8 x] w (CbGives w base b ov sv (p.chunk x)) := by
  have hbl := h.in_.blk.lt
  have HH := Lib.hid h
  have HBG := Lib.hid hbg
  have HZ := Lib.hid hz
  have HD := Lib.hid (coreDone_any p.c w base b _ _ ov sv h.in_)
  have HA := Lib.hid (atKey_any p.c w base b _ _ ov sv h.in_ h.opens (fun c hc => by have := h.parts c hc; have := h.big; omega))
  have HFU := Lib.hid (coreFull_any p.c w base b _ _ ov sv h.in_)
  have HFA := Lib.hid (fun e W (k : Keeps [] w W) => fail_gives e p.c W base b _ _ ov sv (h.keep0 k).in_)
  obtain ⟨g0, g1, g2, g3, g4, g5, g6, g7⟩ := core_facts h.in_
  have hand := pk_and31 hx0 hx1
  clear h hbg hz
  obtain ⟨res, hres⟩ : ∃ res, p.chunk x = res := ⟨_, rfl⟩
  rw [hres]
  have HR := Lib.hid hres
  clear hres
  have HM := Lib.hid (show p.chunk x = p.put (p.c.fail 2) by unfold Cb.chunk; rw [if_neg (by omega), if_pos (Or.inr (by omega))])
  subst hx
  rw [hw] at g4
  go_enter Try.func30, Try.ntmps30
  go_wp2_with fail
  refine (HFA.out 2 w (Keeps.refl _ _)).mono ?_
  rintro e w9 hg9
  have hg9 := CoreGives.cb hg9
  obtain ⟨v9, rfl, hown9, hpost9⟩ := hg9
  obtain ⟨av9, cv9, rfl⟩ := hown9.shape
  have HOWN9 := Lib.hid hown9
  have HPOST9 := Lib.hid hpost9
  clear hown9 hpost9
  go_wp2_with fail
  go_ret
  rw [← HR.out, HM.out]
  exact ⟨_, rfl, HOWN9.out, HPOST9.out⟩

set_option maxHeartbeats 1600000 in
set_option maxRecDepth 100000 in
theorem cchunk_head_f {N : Int} {w : World} {base b : Nat} {ov sv : Value} {p : Cb} (h : CoreOk N w base b 75 (cbRest p) ov sv p.c) (hbg : p.begun = false) (hz : p.h = Hd.zero) (x : Int) (hx0 : 0 ≤ x) (hx1 : x ≤ 255) (hw : p.c.word = false) (hm : x / 32 = 2) (hl : ¬ x % 32 = 31) :
    Calls Try.prog 30 #[.pointer (some ⟨b, 0, none⟩), .int .u8 x] w (CbGives w base b ov sv (p.chunk x)) := by
  have hbl := h.in_.blk.lt
  have HH := Lib.hid h
  have HBG := Lib.hid hbg
  have HZ := Lib.hid hz
  have HD := Lib.hid (coreDone_any p.c w base b _ _ ov sv h.in_)
  have HA := Lib.hid (atKey_any p.c w base b _ _ ov sv h.in_ h.opens (fun c hc => by have := h.parts c hc; have := h.big; omega))
  have HFU := Lib.hid (coreFull_any p.c w base b _ _ ov sv h.in_)
  have HFA := Lib.hid (fun e W (k : Keeps [] w W) => fail_gives e p.c W base b _ _ ov sv (h.keep0 k).in_)
  obtain ⟨g0, g1, g2, g3, g4, g5, g6, g7⟩ := core_facts h.in_
  have hand := pk_and31 hx0 hx1
  clear h hbg hz
  obtain ⟨res, hres⟩ : ∃ res, p.chunk x = res := ⟨_, rfl⟩
  rw [hres]
  have HR := Lib.hid hres
  clear hres
  have HM := Lib.hid (show p.chunk x = p.first x by unfold Cb.chunk; rw [if_neg (by omega), if_neg (by rw [hw]; simp; exact ⟨hm, hl⟩)])
  have hxb : (x == 255) = false := by simp; omega
  have hlb : (x % 32 == 31) = false := by simpa using hl
  clear hl
  rw [hw] at g4
  go_enter Try.func30, Try.ntmps30
  go_wp2_with fail
  refine (chead_first HH.out HZ.out x (by omega) (by omega) (by omega)).mono ?_
  rintro e w9 hg9
  skip
  obtain ⟨v9, rfl, hown9, hpost9⟩ := hg9
  obtain ⟨av9, cv9, rfl⟩ := hown9.shape
  have HOWN9 := Lib.hid hown9
  have HPOST9 := Lib.hid hpost9
  clear hown9 hpost9
  go_wp2_with fail
  go_ret
  rw [← HR.out, HM.out]
  exact ⟨_, rfl, HOWN9.out, HPOST9.out⟩

theorem cchunk_any {N : Int} {w : World} {base b : Nat} {ov sv : Value} {p : Cb} (h : CoreOk N w base b 75 (cbRest p) ov sv p.c) (hbg : p.begun = false) (hz : p.h = Hd.zero) (x : Int) (hx0 : 0 ≤ x) (hx1 : x ≤ 255) :
    Calls Try.prog 30 #[.pointer (some ⟨b, 0, none⟩), .int .u8 x] w (CbGives w base b ov sv (p.chunk x)) := by
  cases hw : p.c.word with
  | false =>
    by_cases h1 : x = 255
    · exact cchunk_stop_f h hbg hz x hx0 hx1 hw h1
    by_cases h2 : x / 32 = 2
    · by_cases h3 : x % 32 = 31
      · exact cchunk_open_f h hbg hz x hx0 hx1 hw (by omega)
      · exact cchunk_head_f h hbg hz x hx0 hx1 hw h2 h3
    · exact cchunk_bad_f h hbg hz x hx0 hx1 hw h1 h2
  | true =>
    by_cases h1 : x = 255
    · exact cchunk_stop_t h hbg hz x hx0 hx1 hw h1
    by_cases h2 : x / 32 = 3
    · by_cases h3 : x % 32 = 31
      · exact cchunk_open_t h hbg hz x hx0 hx1 hw (by omega)
      · exact cchunk_head_t h hbg hz x hx0 hx1 hw h2 h3
    · exact cchunk_bad_t h hbg hz x hx0 hx1 hw h1 h2
end Go.Proofs.Ytdfdajedcgmbfaa
