/-
  packin.Parser's number: its contract.
-/
import Derived.Test.YtmcbdkhlbmhfeaaPack
namespace Go.Tru
theorem told_1 (p : Pk) (all v : Int) : p.told 1 all v = p.put (p.c.value (evInt false v)) := by unfold Pk.told; rw [if_pos rfl]
theorem told_2 (p : Pk) (all v : Int) : p.told 2 all v = p.put (p.c.value (signedEv all v)) := by unfold Pk.told; rw [if_neg (by decide), if_pos rfl]
theorem told_3 (p : Pk) (all v : Int) : p.told 3 all v = p.put (p.c.length false v) := by unfold Pk.told; rw [if_neg (by decide), if_neg (by decide), if_pos (Or.inl rfl)]; rfl
theorem told_4 (p : Pk) (all v : Int) : p.told 4 all v = p.put (p.c.length true v) := by unfold Pk.told; rw [if_neg (by decide), if_neg (by decide), if_pos (Or.inr rfl)]; rfl
theorem told_5 (p : Pk) (all v : Int) : p.told 5 all v = p.count false v := by unfold Pk.told; rw [if_neg (by decide), if_neg (by decide), if_neg (by decide)]; rfl
theorem told_6 (p : Pk) (all v : Int) : p.told 6 all v = p.count true v := by unfold Pk.told; rw [if_neg (by decide), if_neg (by decide), if_neg (by decide)]; rfl
end Go.Tru
namespace Go.Proofs.Ytmcbdkhlbmhfeaa
open Go.RowKit Go.Tru

set_option maxHeartbeats 3200000 in
set_option maxRecDepth 100000 in
theorem number_more {N : Int} {w : World} {base b : Nat} {ov sv : Value} {p : Pk} (h : PkOk N w base b ov sv p) (hk : p.kind ≠ 0) (x : Int) (hx0 : 0 ≤ x) (hx1 : x ≤ 255) (hl : 0 < p.lack - 1) :
    Calls Try.prog 30 #[.pointer (some ⟨b, 0, none⟩), .int .u8 x] w (PkGives w base b ov sv (p.number x)) := by
  obtain ⟨n1, n2, n3, n4, n5⟩ := h.fit.num hk
  have hkk := h.fit.kind
  obtain ⟨g0, g1, g2, g3⟩ := pk_facts h.in_
  obtain ⟨f0, f1, f2, f3, hbl⟩ := pk_free h.in_
  have hv : p.v * 256 + x ≤ 18446744073709551615 := by
    have h9 : (256 : Int) ^ (p.all - p.lack).toNat ≤ 72057594037927936 := by
      have : (p.all - p.lack).toNat ≤ 7 := by omega
      generalize (p.all - p.lack).toNat = j at this
      rcases (show j = 0 ∨ j = 1 ∨ j = 2 ∨ j = 3 ∨ j = 4 ∨ j = 5 ∨ j = 6 ∨ j = 7 by omega) with rfl | rfl | rfl | rfl | rfl | rfl | rfl | rfl <;> simp
    omega
  have hbits := or_byte n4 hx0 hx1 hv
  have hv3 : p.v * 256 ≤ 18446744073709551615 := by omega
  have H := Lib.hid h
  clear h
  obtain ⟨res, hres⟩ : ∃ res, p.number x = res := ⟨_, rfl⟩
  rw [hres]
  have HR := Lib.hid hres
  clear hres
  obtain ⟨y, hy⟩ : ∃ y, p.v * 256 + x = y := ⟨_, rfl⟩
  rw [hy] at hbits hv
  have hy0 : 0 ≤ y := by omega
  have HY := Lib.hid hy
  clear hy
  have HL := Lib.hid hl
  go_enter Try.func30, Try.ntmps30
  go_wp2_with fail
  go_ret
  rw [← HR.out, show p.number x = ([], { p with v := y, lack := p.lack - 1 }) by unfold Pk.number; rw [if_pos HL.out, HY.out]]
  refine ⟨_, rfl, OwnsAny.nil _ _, ov, sv, ?_, ((Keeps.refl _ _).setIn (coBlks_self _ _ _) _).setIn (coBlks_self _ _ _) _, fun i hi => Or.inl hi⟩
  exact (H.out.in_.putRest (i := 3) (u := .int .u64 y)).putRest (i := 1) (u := .int .i64 (p.lack - 1))

set_option maxHeartbeats 3200000 in
set_option maxRecDepth 100000 in
theorem number_k1 {N : Int} {w : World} {base b : Nat} {ov sv : Value} {p : Pk} (h : PkOk N w base b ov sv p) (hk : p.kind ≠ 0) (x : Int) (hx0 : 0 ≤ x) (hx1 : x ≤ 255) (hl : ¬ 0 < p.lack - 1) (hk1 : p.kind = 1) :
    Calls Try.prog 30 #[.pointer (some ⟨b, 0, none⟩), .int .u8 x] w (PkGives w base b ov sv (p.number x)) := by
  obtain ⟨n1, n2, n3, n4, n5⟩ := h.fit.num hk
  have hkk := h.fit.kind
  obtain ⟨g0, g1, g2, g3⟩ := pk_facts h.in_
  obtain ⟨f0, f1, f2, f3, hbl⟩ := pk_free h.in_
  have hv : p.v * 256 + x ≤ 18446744073709551615 := by
    have h9 : (256 : Int) ^ (p.all - p.lack).toNat ≤ 72057594037927936 := by
      have : (p.all - p.lack).toNat ≤ 7 := by omega
      generalize (p.all - p.lack).toNat = j at this
      rcases (show j = 0 ∨ j = 1 ∨ j = 2 ∨ j = 3 ∨ j = 4 ∨ j = 5 ∨ j = 6 ∨ j = 7 by omega) with rfl | rfl | rfl | rfl | rfl | rfl | rfl | rfl <;> simp
    omega
  have hbits := or_byte n4 hx0 hx1 hv
  have hv3 : p.v * 256 ≤ 18446744073709551615 := by omega
  have H := Lib.hid h
  clear h
  obtain ⟨res, hres⟩ : ∃ res, p.number x = res := ⟨_, rfl⟩
  rw [hres]
  have HR := Lib.hid hres
  clear hres
  obtain ⟨y, hy⟩ : ∃ y, p.v * 256 + x = y := ⟨_, rfl⟩
  rw [hy] at hbits hv
  have hy0 : 0 ≤ y := by omega
  have HY := Lib.hid hy
  clear hy
  obtain ⟨p2, hp2⟩ : ∃ p2 : Pk, p2 = { p with v := y, lack := p.lack - 1, kind := 0 } := ⟨_, rfl⟩
  obtain ⟨w2, hw2⟩ : ∃ w2, ((w.setCell ⟨b, 15, none⟩ (.int .u64 y)).setCell ⟨b, 13, none⟩ (.int .i64 (p.lack - 1))).setCell ⟨b, 12, none⟩ (.int .i64 0) = w2 := ⟨_, rfl⟩
  have hin2 : PkIn w2 base b ov sv p2 := by
    rw [hp2, ← hw2]
    exact ((H.out.in_.putRest (i := 3) (u := .int .u64 y)).putRest (i := 1) (u := .int .i64 (p.lack - 1))).putRest (i := 0) (u := .int .i64 0)
  have hkp2 : Keeps (coBlks b ov sv) w w2 := by
    rw [← hw2]
    exact (((Keeps.refl _ _).setIn (coBlks_self _ _ _) _).setIn (coBlks_self _ _ _) _).setIn (coBlks_self _ _ _) _
  have HN := Lib.hid (show p.number x = p2.told p.kind p.all y by unfold Pk.number; rw [if_neg hl, HY.out, hp2])
  have hok2 : PkOk N w2 base b ov sv p2 := ⟨hin2, by
    rw [hp2]
    exact ⟨H.out.fit.core, by simp, by simp, by simp, by simp⟩, H.out.big, Nat.le_trans H.out.base_ hkp2.size⟩
  have hfin : ∀ (t : List Ev × Core) (W : World) (r : Ending) (w' : World), Keeps [] w2 W → p.number x = p2.put t → CoreGives W base b 72 (pkRest p2) ov sv t r w' → PkGives w base b ov sv res r w' := fun t W r w' k e h => by
    rw [← HR.out, e]
    exact PkGives.trans (hkp2.trans (k.mono (by simp))) (fun i hi => Or.inl hi) (CoreGives.pk h)
  have hfin2 : ∀ (t : List Ev × Pk) (W : World) (r : Ending) (w' : World), Keeps [] w2 W → p.number x = t → PkGives W base b ov sv t r w' → PkGives w base b ov sv res r w' := fun t W r w' k e h => by
    rw [← HR.out, e]
    exact PkGives.trans (hkp2.trans (k.mono (by simp))) (fun i hi => Or.inl hi) h
  have HW2 := Lib.hid hw2
  have HOK2 := Lib.hid hok2
  have HP2 := Lib.hid hp2
  have HFIN := Lib.hid hfin
  have HFIN2 := Lib.hid hfin2
  obtain ⟨q0, q1, q2, q3⟩ := pk_facts hin2
  obtain ⟨e0, e1, e2, e3, hbl2⟩ := pk_free hin2
  rw [hp2] at q1 q2 q3
  simp only [] at q1 q2 q3
  clear hin2 hkp2 hok2 hp2 hw2 hfin hfin2 q0
  have hv := fun W (k : Keeps [] w2 W) => value_ok (HOK2.out.core.keep0 k) (evInt false y)
  rw [part_int] at hv
  have HV := Lib.hid hv
  rw [hk1] at g0
  have HK1 := Lib.hid hk1
  clear hv hk1
  go_enter Try.func30, Try.ntmps30
  go_wp2_with fail
  rw [HW2.out]
  go_region_with (go_at_call 44; refine (HV.out _ ((Keeps.refl _ _).drew)).mono ?_; rintro e w4 hgv; obtain ⟨v4, rfl, hown4, hpost4⟩ := hgv)
  all_goals
    obtain ⟨av, cv, rfl⟩ := hown4.shape
    have HOWN := Lib.hid hown4
    have HPOST := Lib.hid hpost4
    clear hown4 hpost4
    go_wp2_with fail
    go_ret
    exact HFIN.out _ _ _ _ ((Keeps.refl _ _).drew) (by rw [HN.out, HK1.out, told_1]) ⟨_, rfl, HOWN.out, HPOST.out⟩

set_option maxHeartbeats 3200000 in
set_option maxRecDepth 100000 in
theorem number_k2_1p {N : Int} {w : World} {base b : Nat} {ov sv : Value} {p : Pk} (h : PkOk N w base b ov sv p) (hk : p.kind ≠ 0) (x : Int) (hx0 : 0 ≤ x) (hx1 : x ≤ 255) (hl : ¬ 0 < p.lack - 1) (hk1 : p.kind = 2) (ha : p.all = 1) (hsg : p.v * 256 + x < 128) :
    Calls Try.prog 30 #[.pointer (some ⟨b, 0, none⟩), .int .u8 x] w (PkGives w base b ov sv (p.number x)) := by
  obtain ⟨n1, n2, n3, n4, n5⟩ := h.fit.num hk
  have hkk := h.fit.kind
  obtain ⟨g0, g1, g2, g3⟩ := pk_facts h.in_
  obtain ⟨f0, f1, f2, f3, hbl⟩ := pk_free h.in_
  have hv : p.v * 256 + x ≤ 18446744073709551615 := by
    have h9 : (256 : Int) ^ (p.all - p.lack).toNat ≤ 72057594037927936 := by
      have : (p.all - p.lack).toNat ≤ 7 := by omega
      generalize (p.all - p.lack).toNat = j at this
      rcases (show j = 0 ∨ j = 1 ∨ j = 2 ∨ j = 3 ∨ j = 4 ∨ j = 5 ∨ j = 6 ∨ j = 7 by omega) with rfl | rfl | rfl | rfl | rfl | rfl | rfl | rfl <;> simp
    omega
  have hbits := or_byte n4 hx0 hx1 hv
  have hv3 : p.v * 256 ≤ 18446744073709551615 := by omega
  have H := Lib.hid h
  clear h
  obtain ⟨res, hres⟩ : ∃ res, p.number x = res := ⟨_, rfl⟩
  rw [hres]
  have HR := Lib.hid hres
  clear hres
  obtain ⟨y, hy⟩ : ∃ y, p.v * 256 + x = y := ⟨_, rfl⟩
  rw [hy] at hbits hv hsg
  have hy0 : 0 ≤ y := by omega
  have HY := Lib.hid hy
  clear hy
  obtain ⟨p2, hp2⟩ : ∃ p2 : Pk, p2 = { p with v := y, lack := p.lack - 1, kind := 0 } := ⟨_, rfl⟩
  obtain ⟨w2, hw2⟩ : ∃ w2, ((w.setCell ⟨b, 15, none⟩ (.int .u64 y)).setCell ⟨b, 13, none⟩ (.int .i64 (p.lack - 1))).setCell ⟨b, 12, none⟩ (.int .i64 0) = w2 := ⟨_, rfl⟩
  have hin2 : PkIn w2 base b ov sv p2 := by
    rw [hp2, ← hw2]
    exact ((H.out.in_.putRest (i := 3) (u := .int .u64 y)).putRest (i := 1) (u := .int .i64 (p.lack - 1))).putRest (i := 0) (u := .int .i64 0)
  have hkp2 : Keeps (coBlks b ov sv) w w2 := by
    rw [← hw2]
    exact (((Keeps.refl _ _).setIn (coBlks_self _ _ _) _).setIn (coBlks_self _ _ _) _).setIn (coBlks_self _ _ _) _
  have HN := Lib.hid (show p.number x = p2.told p.kind p.all y by unfold Pk.number; rw [if_neg hl, HY.out, hp2])
  have hok2 : PkOk N w2 base b ov sv p2 := ⟨hin2, by
    rw [hp2]
    exact ⟨H.out.fit.core, by simp, by simp, by simp, by simp⟩, H.out.big, Nat.le_trans H.out.base_ hkp2.size⟩
  have hfin : ∀ (t : List Ev × Core) (W : World) (r : Ending) (w' : World), Keeps [] w2 W → p.number x = p2.put t → CoreGives W base b 72 (pkRest p2) ov sv t r w' → PkGives w base b ov sv res r w' := fun t W r w' k e h => by
    rw [← HR.out, e]
    exact PkGives.trans (hkp2.trans (k.mono (by simp))) (fun i hi => Or.inl hi) (CoreGives.pk h)
  have hfin2 : ∀ (t : List Ev × Pk) (W : World) (r : Ending) (w' : World), Keeps [] w2 W → p.number x = t → PkGives W base b ov sv t r w' → PkGives w base b ov sv res r w' := fun t W r w' k e h => by
    rw [← HR.out, e]
    exact PkGives.trans (hkp2.trans (k.mono (by simp))) (fun i hi => Or.inl hi) h
  have HW2 := Lib.hid hw2
  have HOK2 := Lib.hid hok2
  have HP2 := Lib.hid hp2
  have HFIN := Lib.hid hfin
  have HFIN2 := Lib.hid hfin2
  obtain ⟨q0, q1, q2, q3⟩ := pk_facts hin2
  obtain ⟨e0, e1, e2, e3, hbl2⟩ := pk_free hin2
  rw [hp2] at q1 q2 q3
  simp only [] at q1 q2 q3
  clear hin2 hkp2 hok2 hp2 hw2 hfin hfin2 q0
  have hl1 : p.lack = 1 := by omega
  rw [hl1] at n5
  have HYE := Lib.hid (show y = p.v * 256 + x from HY.out.symm)
  rw [hk1] at g0
  have HK1 := Lib.hid hk1
  clear hk1
  have HW2' := Lib.hid (show ((w.setCell ⟨b, 15, none⟩ (.int .u64 y)).setCell ⟨b, 13, none⟩ (.int .i64 0)).setCell ⟨b, 12, none⟩ (.int .i64 0) = w2 by rw [← HW2.out, hl1]; rfl)
  rw [ha] at g2 q2 n5
  have hym : y < 256 := by
    have h256 : (256 : Int) ^ ((1 : Int) - 1).toNat = 1 := by decide
    rw [h256] at n5
    have := HYE.out
    omega
  have HA := Lib.hid ha
  clear ha n5
  have hpow : (2 : Int) ^ (8 * (1 : Int).toNat - 1) = 128 := by decide
  have hpow2 : (2 : Int) ^ (8 * (1 : Int).toNat) = 256 := by decide
  have hsig : wrap64 (IntKind.u64.wrap (y * 72057594037927936)) / 72057594037927936 = y := by unfold wrap64; rw [IntKind.wrap_u64]; omega
  have hev := Lib.hid (show signedEv 1 y = evInt false y by unfold signedEv; rw [hpow, if_pos hsg])
  have HV := Lib.hid (show Calls Try.prog _ _ _ _ from part_int false y ▸ value_ok HOK2.out.core (evInt false y))
  have hsg0 : ¬ y < 0 := by omega
  clear hpow hpow2
  go_enter Try.func30, Try.ntmps30
  go_wp2_with fail
  rw [HW2'.out]
  go_wp2_with fail
  refine HV.out.mono ?_
  rintro e w4 hgv
  obtain ⟨v4, rfl, hown4, hpost4⟩ := hgv
  obtain ⟨av, cv, rfl⟩ := hown4.shape
  have HOWN := Lib.hid hown4
  have HPOST := Lib.hid hpost4
  clear hown4 hpost4
  go_wp2_with fail
  go_ret
  exact HFIN.out _ _ _ _ (Keeps.refl _ _) (by rw [HN.out, HK1.out, told_2, HA.out, hev.out]) ⟨_, rfl, HOWN.out, HPOST.out⟩

set_option maxHeartbeats 3200000 in
set_option maxRecDepth 100000 in
theorem number_k2_1n {N : Int} {w : World} {base b : Nat} {ov sv : Value} {p : Pk} (h : PkOk N w base b ov sv p) (hk : p.kind ≠ 0) (x : Int) (hx0 : 0 ≤ x) (hx1 : x ≤ 255) (hl : ¬ 0 < p.lack - 1) (hk1 : p.kind = 2) (ha : p.all = 1) (hsg : ¬ p.v * 256 + x < 128) :
    Calls Try.prog 30 #[.pointer (some ⟨b, 0, none⟩), .int .u8 x] w (PkGives w base b ov sv (p.number x)) := by
  obtain ⟨n1, n2, n3, n4, n5⟩ := h.fit.num hk
  have hkk := h.fit.kind
  obtain ⟨g0, g1, g2, g3⟩ := pk_facts h.in_
  obtain ⟨f0, f1, f2, f3, hbl⟩ := pk_free h.in_
  have hv : p.v * 256 + x ≤ 18446744073709551615 := by
    have h9 : (256 : Int) ^ (p.all - p.lack).toNat ≤ 72057594037927936 := by
      have : (p.all - p.lack).toNat ≤ 7 := by omega
      generalize (p.all - p.lack).toNat = j at this
      rcases (show j = 0 ∨ j = 1 ∨ j = 2 ∨ j = 3 ∨ j = 4 ∨ j = 5 ∨ j = 6 ∨ j = 7 by omega) with rfl | rfl | rfl | rfl | rfl | rfl | rfl | rfl <;> simp
    omega
  have hbits := or_byte n4 hx0 hx1 hv
  have hv3 : p.v * 256 ≤ 18446744073709551615 := by omega
  have H := Lib.hid h
  clear h
  obtain ⟨res, hres⟩ : ∃ res, p.number x = res := ⟨_, rfl⟩
  rw [hres]
  have HR := Lib.hid hres
  clear hres
  obtain ⟨y, hy⟩ : ∃ y, p.v * 256 + x = y := ⟨_, rfl⟩
  rw [hy] at hbits hv hsg
  have hy0 : 0 ≤ y := by omega
  have HY := Lib.hid hy
  clear hy
  obtain ⟨p2, hp2⟩ : ∃ p2 : Pk, p2 = { p with v := y, lack := p.lack - 1, kind := 0 } := ⟨_, rfl⟩
  obtain ⟨w2, hw2⟩ : ∃ w2, ((w.setCell ⟨b, 15, none⟩ (.int .u64 y)).setCell ⟨b, 13, none⟩ (.int .i64 (p.lack - 1))).setCell ⟨b, 12, none⟩ (.int .i64 0) = w2 := ⟨_, rfl⟩
  have hin2 : PkIn w2 base b ov sv p2 := by
    rw [hp2, ← hw2]
    exact ((H.out.in_.putRest (i := 3) (u := .int .u64 y)).putRest (i := 1) (u := .int .i64 (p.lack - 1))).putRest (i := 0) (u := .int .i64 0)
  have hkp2 : Keeps (coBlks b ov sv) w w2 := by
    rw [← hw2]
    exact (((Keeps.refl _ _).setIn (coBlks_self _ _ _) _).setIn (coBlks_self _ _ _) _).setIn (coBlks_self _ _ _) _
  have HN := Lib.hid (show p.number x = p2.told p.kind p.all y by unfold Pk.number; rw [if_neg hl, HY.out, hp2])
  have hok2 : PkOk N w2 base b ov sv p2 := ⟨hin2, by
    rw [hp2]
    exact ⟨H.out.fit.core, by simp, by simp, by simp, by simp⟩, H.out.big, Nat.le_trans H.out.base_ hkp2.size⟩
  have hfin : ∀ (t : List Ev × Core) (W : World) (r : Ending) (w' : World), Keeps [] w2 W → p.number x = p2.put t → CoreGives W base b 72 (pkRest p2) ov sv t r w' → PkGives w base b ov sv res r w' := fun t W r w' k e h => by
    rw [← HR.out, e]
    exact PkGives.trans (hkp2.trans (k.mono (by simp))) (fun i hi => Or.inl hi) (CoreGives.pk h)
  have hfin2 : ∀ (t : List Ev × Pk) (W : World) (r : Ending) (w' : World), Keeps [] w2 W → p.number x = t → PkGives W base b ov sv t r w' → PkGives w base b ov sv res r w' := fun t W r w' k e h => by
    rw [← HR.out, e]
    exact PkGives.trans (hkp2.trans (k.mono (by simp))) (fun i hi => Or.inl hi) h
  have HW2 := Lib.hid hw2
  have HOK2 := Lib.hid hok2
  have HP2 := Lib.hid hp2
  have HFIN := Lib.hid hfin
  have HFIN2 := Lib.hid hfin2
  obtain ⟨q0, q1, q2, q3⟩ := pk_facts hin2
  obtain ⟨e0, e1, e2, e3, hbl2⟩ := pk_free hin2
  rw [hp2] at q1 q2 q3
  simp only [] at q1 q2 q3
  clear hin2 hkp2 hok2 hp2 hw2 hfin hfin2 q0
  have hl1 : p.lack = 1 := by omega
  rw [hl1] at n5
  have HYE := Lib.hid (show y = p.v * 256 + x from HY.out.symm)
  rw [hk1] at g0
  have HK1 := Lib.hid hk1
  clear hk1
  have HW2' := Lib.hid (show ((w.setCell ⟨b, 15, none⟩ (.int .u64 y)).setCell ⟨b, 13, none⟩ (.int .i64 0)).setCell ⟨b, 12, none⟩ (.int .i64 0) = w2 by rw [← HW2.out, hl1]; rfl)
  rw [ha] at g2 q2 n5
  have hym : y < 256 := by
    have h256 : (256 : Int) ^ ((1 : Int) - 1).toNat = 1 := by decide
    rw [h256] at n5
    have := HYE.out
    omega
  have HA := Lib.hid ha
  clear ha n5
  have hpow : (2 : Int) ^ (8 * (1 : Int).toNat - 1) = 128 := by decide
  have hpow2 : (2 : Int) ^ (8 * (1 : Int).toNat) = 256 := by decide
  have hsig : wrap64 (y * 72057594037927936) / 72057594037927936 = y - 256 := by unfold wrap64; omega
  have hnot : bits .xor .i64 (-1) (y - 256) = 255 - y := by rw [i64_not (by omega) (by omega)]; omega
  have hwr : IntKind.u64.wrap (255 - y) = 255 - y := IntWalk.u64_in _ (by omega)
  have hev := Lib.hid (show signedEv 1 y = evInt true (255 - y) by unfold signedEv; rw [hpow, hpow2, if_neg hsg]; congr 1)
  have HV := Lib.hid (show Calls Try.prog _ _ _ _ from part_int true (255 - y) ▸ value_ok HOK2.out.core (evInt true (255 - y)))
  clear hpow hpow2
  go_enter Try.func30, Try.ntmps30
  go_wp2_with fail
  rw [HW2'.out]
  go_wp2_with fail
  refine HV.out.mono ?_
  rintro e w4 hgv
  obtain ⟨v4, rfl, hown4, hpost4⟩ := hgv
  obtain ⟨av, cv, rfl⟩ := hown4.shape
  have HOWN := Lib.hid hown4
  have HPOST := Lib.hid hpost4
  clear hown4 hpost4
  go_wp2_with fail
  go_ret
  exact HFIN.out _ _ _ _ (Keeps.refl _ _) (by rw [HN.out, HK1.out, told_2, HA.out, hev.out]) ⟨_, rfl, HOWN.out, HPOST.out⟩

set_option maxHeartbeats 3200000 in
set_option maxRecDepth 100000 in
theorem number_k2_2p {N : Int} {w : World} {base b : Nat} {ov sv : Value} {p : Pk} (h : PkOk N w base b ov sv p) (hk : p.kind ≠ 0) (x : Int) (hx0 : 0 ≤ x) (hx1 : x ≤ 255) (hl : ¬ 0 < p.lack - 1) (hk1 : p.kind = 2) (ha : p.all = 2) (hsg : p.v * 256 + x < 32768) :
    Calls Try.prog 30 #[.pointer (some ⟨b, 0, none⟩), .int .u8 x] w (PkGives w base b ov sv (p.number x)) := by
  obtain ⟨n1, n2, n3, n4, n5⟩ := h.fit.num hk
  have hkk := h.fit.kind
  obtain ⟨g0, g1, g2, g3⟩ := pk_facts h.in_
  obtain ⟨f0, f1, f2, f3, hbl⟩ := pk_free h.in_
  have hv : p.v * 256 + x ≤ 18446744073709551615 := by
    have h9 : (256 : Int) ^ (p.all - p.lack).toNat ≤ 72057594037927936 := by
      have : (p.all - p.lack).toNat ≤ 7 := by omega
      generalize (p.all - p.lack).toNat = j at this
      rcases (show j = 0 ∨ j = 1 ∨ j = 2 ∨ j = 3 ∨ j = 4 ∨ j = 5 ∨ j = 6 ∨ j = 7 by omega) with rfl | rfl | rfl | rfl | rfl | rfl | rfl | rfl <;> simp
    omega
  have hbits := or_byte n4 hx0 hx1 hv
  have hv3 : p.v * 256 ≤ 18446744073709551615 := by omega
  have H := Lib.hid h
  clear h
  obtain ⟨res, hres⟩ : ∃ res, p.number x = res := ⟨_, rfl⟩
  rw [hres]
  have HR := Lib.hid hres
  clear hres
  obtain ⟨y, hy⟩ : ∃ y, p.v * 256 + x = y := ⟨_, rfl⟩
  rw [hy] at hbits hv hsg
  have hy0 : 0 ≤ y := by omega
  have HY := Lib.hid hy
  clear hy
  obtain ⟨p2, hp2⟩ : ∃ p2 : Pk, p2 = { p with v := y, lack := p.lack - 1, kind := 0 } := ⟨_, rfl⟩
  obtain ⟨w2, hw2⟩ : ∃ w2, ((w.setCell ⟨b, 15, none⟩ (.int .u64 y)).setCell ⟨b, 13, none⟩ (.int .i64 (p.lack - 1))).setCell ⟨b, 12, none⟩ (.int .i64 0) = w2 := ⟨_, rfl⟩
  have hin2 : PkIn w2 base b ov sv p2 := by
    rw [hp2, ← hw2]
    exact ((H.out.in_.putRest (i := 3) (u := .int .u64 y)).putRest (i := 1) (u := .int .i64 (p.lack - 1))).putRest (i := 0) (u := .int .i64 0)
  have hkp2 : Keeps (coBlks b ov sv) w w2 := by
    rw [← hw2]
    exact (((Keeps.refl _ _).setIn (coBlks_self _ _ _) _).setIn (coBlks_self _ _ _) _).setIn (coBlks_self _ _ _) _
  have HN := Lib.hid (show p.number x = p2.told p.kind p.all y by unfold Pk.number; rw [if_neg hl, HY.out, hp2])
  have hok2 : PkOk N w2 base b ov sv p2 := ⟨hin2, by
    rw [hp2]
    exact ⟨H.out.fit.core, by simp, by simp, by simp, by simp⟩, H.out.big, Nat.le_trans H.out.base_ hkp2.size⟩
  have hfin : ∀ (t : List Ev × Core) (W : World) (r : Ending) (w' : World), Keeps [] w2 W → p.number x = p2.put t → CoreGives W base b 72 (pkRest p2) ov sv t r w' → PkGives w base b ov sv res r w' := fun t W r w' k e h => by
    rw [← HR.out, e]
    exact PkGives.trans (hkp2.trans (k.mono (by simp))) (fun i hi => Or.inl hi) (CoreGives.pk h)
  have hfin2 : ∀ (t : List Ev × Pk) (W : World) (r : Ending) (w' : World), Keeps [] w2 W → p.number x = t → PkGives W base b ov sv t r w' → PkGives w base b ov sv res r w' := fun t W r w' k e h => by
    rw [← HR.out, e]
    exact PkGives.trans (hkp2.trans (k.mono (by simp))) (fun i hi => Or.inl hi) h
  have HW2 := Lib.hid hw2
  have HOK2 := Lib.hid hok2
  have HP2 := Lib.hid hp2
  have HFIN := Lib.hid hfin
  have HFIN2 := Lib.hid hfin2
  obtain ⟨q0, q1, q2, q3⟩ := pk_facts hin2
  obtain ⟨e0, e1, e2, e3, hbl2⟩ := pk_free hin2
  rw [hp2] at q1 q2 q3
  simp only [] at q1 q2 q3
  clear hin2 hkp2 hok2 hp2 hw2 hfin hfin2 q0
  have hl1 : p.lack = 1 := by omega
  rw [hl1] at n5
  have HYE := Lib.hid (show y = p.v * 256 + x from HY.out.symm)
  rw [hk1] at g0
  have HK1 := Lib.hid hk1
  clear hk1
  have HW2' := Lib.hid (show ((w.setCell ⟨b, 15, none⟩ (.int .u64 y)).setCell ⟨b, 13, none⟩ (.int .i64 0)).setCell ⟨b, 12, none⟩ (.int .i64 0) = w2 by rw [← HW2.out, hl1]; rfl)
  rw [ha] at g2 q2 n5
  have hym : y < 65536 := by
    have h256 : (256 : Int) ^ ((2 : Int) - 1).toNat = 256 := by decide
    rw [h256] at n5
    have := HYE.out
    omega
  have HA := Lib.hid ha
  clear ha n5
  have hpow : (2 : Int) ^ (8 * (2 : Int).toNat - 1) = 32768 := by decide
  have hpow2 : (2 : Int) ^ (8 * (2 : Int).toNat) = 65536 := by decide
  have hsig : wrap64 (IntKind.u64.wrap (y * 281474976710656)) / 281474976710656 = y := by unfold wrap64; rw [IntKind.wrap_u64]; omega
  have hev := Lib.hid (show signedEv 2 y = evInt false y by unfold signedEv; rw [hpow, if_pos hsg])
  have HV := Lib.hid (show Calls Try.prog _ _ _ _ from part_int false y ▸ value_ok HOK2.out.core (evInt false y))
  have hsg0 : ¬ y < 0 := by omega
  clear hpow hpow2
  go_enter Try.func30, Try.ntmps30
  go_wp2_with fail
  rw [HW2'.out]
  go_wp2_with fail
  refine HV.out.mono ?_
  rintro e w4 hgv
  obtain ⟨v4, rfl, hown4, hpost4⟩ := hgv
  obtain ⟨av, cv, rfl⟩ := hown4.shape
  have HOWN := Lib.hid hown4
  have HPOST := Lib.hid hpost4
  clear hown4 hpost4
  go_wp2_with fail
  go_ret
  exact HFIN.out _ _ _ _ (Keeps.refl _ _) (by rw [HN.out, HK1.out, told_2, HA.out, hev.out]) ⟨_, rfl, HOWN.out, HPOST.out⟩

set_option maxHeartbeats 3200000 in
set_option maxRecDepth 100000 in
theorem number_k2_2n {N : Int} {w : World} {base b : Nat} {ov sv : Value} {p : Pk} (h : PkOk N w base b ov sv p) (hk : p.kind ≠ 0) (x : Int) (hx0 : 0 ≤ x) (hx1 : x ≤ 255) (hl : ¬ 0 < p.lack - 1) (hk1 : p.kind = 2) (ha : p.all = 2) (hsg : ¬ p.v * 256 + x < 32768) :
    Calls Try.prog 30 #[.pointer (some ⟨b, 0, none⟩), .int .u8 x] w (PkGives w base b ov sv (p.number x)) := by
  obtain ⟨n1, n2, n3, n4, n5⟩ := h.fit.num hk
  have hkk := h.fit.kind
  obtain ⟨g0, g1, g2, g3⟩ := pk_facts h.in_
  obtain ⟨f0, f1, f2, f3, hbl⟩ := pk_free h.in_
  have hv : p.v * 256 + x ≤ 18446744073709551615 := by
    have h9 : (256 : Int) ^ (p.all - p.lack).toNat ≤ 72057594037927936 := by
      have : (p.all - p.lack).toNat ≤ 7 := by omega
      generalize (p.all - p.lack).toNat = j at this
      rcases (show j = 0 ∨ j = 1 ∨ j = 2 ∨ j = 3 ∨ j = 4 ∨ j = 5 ∨ j = 6 ∨ j = 7 by omega) with rfl | rfl | rfl | rfl | rfl | rfl | rfl | rfl <;> simp
    omega
  have hbits := or_byte n4 hx0 hx1 hv
  have hv3 : p.v * 256 ≤ 18446744073709551615 := by omega
  have H := Lib.hid h
  clear h
  obtain ⟨res, hres⟩ : ∃ res, p.number x = res := ⟨_, rfl⟩
  rw [hres]
  have HR := Lib.hid hres
  clear hres
  obtain ⟨y, hy⟩ : ∃ y, p.v * 256 + x = y := ⟨_, rfl⟩
  rw [hy] at hbits hv hsg
  have hy0 : 0 ≤ y := by omega
  have HY := Lib.hid hy
  clear hy
  obtain ⟨p2, hp2⟩ : ∃ p2 : Pk, p2 = { p with v := y, lack := p.lack - 1, kind := 0 } := ⟨_, rfl⟩
  obtain ⟨w2, hw2⟩ : ∃ w2, ((w.setCell ⟨b, 15, none⟩ (.int .u64 y)).setCell ⟨b, 13, none⟩ (.int .i64 (p.lack - 1))).setCell ⟨b, 12, none⟩ (.int .i64 0) = w2 := ⟨_, rfl⟩
  have hin2 : PkIn w2 base b ov sv p2 := by
    rw [hp2, ← hw2]
    exact ((H.out.in_.putRest (i := 3) (u := .int .u64 y)).putRest (i := 1) (u := .int .i64 (p.lack - 1))).putRest (i := 0) (u := .int .i64 0)
  have hkp2 : Keeps (coBlks b ov sv) w w2 := by
    rw [← hw2]
    exact (((Keeps.refl _ _).setIn (coBlks_self _ _ _) _).setIn (coBlks_self _ _ _) _).setIn (coBlks_self _ _ _) _
  have HN := Lib.hid (show p.number x = p2.told p.kind p.all y by unfold Pk.number; rw [if_neg hl, HY.out, hp2])
  have hok2 : PkOk N w2 base b ov sv p2 := ⟨hin2, by
    rw [hp2]
    exact ⟨H.out.fit.core, by simp, by simp, by simp, by simp⟩, H.out.big, Nat.le_trans H.out.base_ hkp2.size⟩
  have hfin : ∀ (t : List Ev × Core) (W : World) (r : Ending) (w' : World), Keeps [] w2 W → p.number x = p2.put t → CoreGives W base b 72 (pkRest p2) ov sv t r w' → PkGives w base b ov sv res r w' := fun t W r w' k e h => by
    rw [← HR.out, e]
    exact PkGives.trans (hkp2.trans (k.mono (by simp))) (fun i hi => Or.inl hi) (CoreGives.pk h)
  have hfin2 : ∀ (t : List Ev × Pk) (W : World) (r : Ending) (w' : World), Keeps [] w2 W → p.number x = t → PkGives W base b ov sv t r w' → PkGives w base b ov sv res r w' := fun t W r w' k e h => by
    rw [← HR.out, e]
    exact PkGives.trans (hkp2.trans (k.mono (by simp))) (fun i hi => Or.inl hi) h
  have HW2 := Lib.hid hw2
  have HOK2 := Lib.hid hok2
  have HP2 := Lib.hid hp2
  have HFIN := Lib.hid hfin
  have HFIN2 := Lib.hid hfin2
  obtain ⟨q0, q1, q2, q3⟩ := pk_facts hin2
  obtain ⟨e0, e1, e2, e3, hbl2⟩ := pk_free hin2
  rw [hp2] at q1 q2 q3
  simp only [] at q1 q2 q3
  clear hin2 hkp2 hok2 hp2 hw2 hfin hfin2 q0
  have hl1 : p.lack = 1 := by omega
  rw [hl1] at n5
  have HYE := Lib.hid (show y = p.v * 256 + x from HY.out.symm)
  rw [hk1] at g0
  have HK1 := Lib.hid hk1
  clear hk1
  have HW2' := Lib.hid (show ((w.setCell ⟨b, 15, none⟩ (.int .u64 y)).setCell ⟨b, 13, none⟩ (.int .i64 0)).setCell ⟨b, 12, none⟩ (.int .i64 0) = w2 by rw [← HW2.out, hl1]; rfl)
  rw [ha] at g2 q2 n5
  have hym : y < 65536 := by
    have h256 : (256 : Int) ^ ((2 : Int) - 1).toNat = 256 := by decide
    rw [h256] at n5
    have := HYE.out
    omega
  have HA := Lib.hid ha
  clear ha n5
  have hpow : (2 : Int) ^ (8 * (2 : Int).toNat - 1) = 32768 := by decide
  have hpow2 : (2 : Int) ^ (8 * (2 : Int).toNat) = 65536 := by decide
  have hsig : wrap64 (y * 281474976710656) / 281474976710656 = y - 65536 := by unfold wrap64; omega
  have hnot : bits .xor .i64 (-1) (y - 65536) = 65535 - y := by rw [i64_not (by omega) (by omega)]; omega
  have hwr : IntKind.u64.wrap (65535 - y) = 65535 - y := IntWalk.u64_in _ (by omega)
  have hev := Lib.hid (show signedEv 2 y = evInt true (65535 - y) by unfold signedEv; rw [hpow, hpow2, if_neg hsg]; congr 1)
  have HV := Lib.hid (show Calls Try.prog _ _ _ _ from part_int true (65535 - y) ▸ value_ok HOK2.out.core (evInt true (65535 - y)))
  clear hpow hpow2
  go_enter Try.func30, Try.ntmps30
  go_wp2_with fail
  rw [HW2'.out]
  go_wp2_with fail
  refine HV.out.mono ?_
  rintro e w4 hgv
  obtain ⟨v4, rfl, hown4, hpost4⟩ := hgv
  obtain ⟨av, cv, rfl⟩ := hown4.shape
  have HOWN := Lib.hid hown4
  have HPOST := Lib.hid hpost4
  clear hown4 hpost4
  go_wp2_with fail
  go_ret
  exact HFIN.out _ _ _ _ (Keeps.refl _ _) (by rw [HN.out, HK1.out, told_2, HA.out, hev.out]) ⟨_, rfl, HOWN.out, HPOST.out⟩

set_option maxHeartbeats 3200000 in
set_option maxRecDepth 100000 in
theorem number_k2_4p {N : Int} {w : World} {base b : Nat} {ov sv : Value} {p : Pk} (h : PkOk N w base b ov sv p) (hk : p.kind ≠ 0) (x : Int) (hx0 : 0 ≤ x) (hx1 : x ≤ 255) (hl : ¬ 0 < p.lack - 1) (hk1 : p.kind = 2) (ha : p.all = 4) (hsg : p.v * 256 + x < 2147483648) :
    Calls Try.prog 30 #[.pointer (some ⟨b, 0, none⟩), .int .u8 x] w (PkGives w base b ov sv (p.number x)) := by
  obtain ⟨n1, n2, n3, n4, n5⟩ := h.fit.num hk
  have hkk := h.fit.kind
  obtain ⟨g0, g1, g2, g3⟩ := pk_facts h.in_
  obtain ⟨f0, f1, f2, f3, hbl⟩ := pk_free h.in_
  have hv : p.v * 256 + x ≤ 18446744073709551615 := by
    have h9 : (256 : Int) ^ (p.all - p.lack).toNat ≤ 72057594037927936 := by
      have : (p.all - p.lack).toNat ≤ 7 := by omega
      generalize (p.all - p.lack).toNat = j at this
      rcases (show j = 0 ∨ j = 1 ∨ j = 2 ∨ j = 3 ∨ j = 4 ∨ j = 5 ∨ j = 6 ∨ j = 7 by omega) with rfl | rfl | rfl | rfl | rfl | rfl | rfl | rfl <;> simp
    omega
  have hbits := or_byte n4 hx0 hx1 hv
  have hv3 : p.v * 256 ≤ 18446744073709551615 := by omega
  have H := Lib.hid h
  clear h
  obtain ⟨res, hres⟩ : ∃ res, p.number x = res := ⟨_, rfl⟩
  rw [hres]
  have HR := Lib.hid hres
  clear hres
  obtain ⟨y, hy⟩ : ∃ y, p.v * 256 + x = y := ⟨_, rfl⟩
  rw [hy] at hbits hv hsg
  have hy0 : 0 ≤ y := by omega
  have HY := Lib.hid hy
  clear hy
  obtain ⟨p2, hp2⟩ : ∃ p2 : Pk, p2 = { p with v := y, lack := p.lack - 1, kind := 0 } := ⟨_, rfl⟩
  obtain ⟨w2, hw2⟩ : ∃ w2, ((w.setCell ⟨b, 15, none⟩ (.int .u64 y)).setCell ⟨b, 13, none⟩ (.int .i64 (p.lack - 1))).setCell ⟨b, 12, none⟩ (.int .i64 0) = w2 := ⟨_, rfl⟩
  have hin2 : PkIn w2 base b ov sv p2 := by
    rw [hp2, ← hw2]
    exact ((H.out.in_.putRest (i := 3) (u := .int .u64 y)).putRest (i := 1) (u := .int .i64 (p.lack - 1))).putRest (i := 0) (u := .int .i64 0)
  have hkp2 : Keeps (coBlks b ov sv) w w2 := by
    rw [← hw2]
    exact (((Keeps.refl _ _).setIn (coBlks_self _ _ _) _).setIn (coBlks_self _ _ _) _).setIn (coBlks_self _ _ _) _
  have HN := Lib.hid (show p.number x = p2.told p.kind p.all y by unfold Pk.number; rw [if_neg hl, HY.out, hp2])
  have hok2 : PkOk N w2 base b ov sv p2 := ⟨hin2, by
    rw [hp2]
    exact ⟨H.out.fit.core, by simp, by simp, by simp, by simp⟩, H.out.big, Nat.le_trans H.out.base_ hkp2.size⟩
  have hfin : ∀ (t : List Ev × Core) (W : World) (r : Ending) (w' : World), Keeps [] w2 W → p.number x = p2.put t → CoreGives W base b 72 (pkRest p2) ov sv t r w' → PkGives w base b ov sv res r w' := fun t W r w' k e h => by
    rw [← HR.out, e]
    exact PkGives.trans (hkp2.trans (k.mono (by simp))) (fun i hi => Or.inl hi) (CoreGives.pk h)
  have hfin2 : ∀ (t : List Ev × Pk) (W : World) (r : Ending) (w' : World), Keeps [] w2 W → p.number x = t → PkGives W base b ov sv t r w' → PkGives w base b ov sv res r w' := fun t W r w' k e h => by
    rw [← HR.out, e]
    exact PkGives.trans (hkp2.trans (k.mono (by simp))) (fun i hi => Or.inl hi) h
  have HW2 := Lib.hid hw2
  have HOK2 := Lib.hid hok2
  have HP2 := Lib.hid hp2
  have HFIN := Lib.hid hfin
  have HFIN2 := Lib.hid hfin2
  obtain ⟨q0, q1, q2, q3⟩ := pk_facts hin2
  obtain ⟨e0, e1, e2, e3, hbl2⟩ := pk_free hin2
  rw [hp2] at q1 q2 q3
  simp only [] at q1 q2 q3
  clear hin2 hkp2 hok2 hp2 hw2 hfin hfin2 q0
  have hl1 : p.lack = 1 := by omega
  rw [hl1] at n5
  have HYE := Lib.hid (show y = p.v * 256 + x from HY.out.symm)
  rw [hk1] at g0
  have HK1 := Lib.hid hk1
  clear hk1
  have HW2' := Lib.hid (show ((w.setCell ⟨b, 15, none⟩ (.int .u64 y)).setCell ⟨b, 13, none⟩ (.int .i64 0)).setCell ⟨b, 12, none⟩ (.int .i64 0) = w2 by rw [← HW2.out, hl1]; rfl)
  rw [ha] at g2 q2 n5
  have hym : y < 4294967296 := by
    have h256 : (256 : Int) ^ ((4 : Int) - 1).toNat = 16777216 := by decide
    rw [h256] at n5
    have := HYE.out
    omega
  have HA := Lib.hid ha
  clear ha n5
  have hpow : (2 : Int) ^ (8 * (4 : Int).toNat - 1) = 2147483648 := by decide
  have hpow2 : (2 : Int) ^ (8 * (4 : Int).toNat) = 4294967296 := by decide
  have hsig : wrap64 (IntKind.u64.wrap (y * 4294967296)) / 4294967296 = y := by unfold wrap64; rw [IntKind.wrap_u64]; omega
  have hev := Lib.hid (show signedEv 4 y = evInt false y by unfold signedEv; rw [hpow, if_pos hsg])
  have HV := Lib.hid (show Calls Try.prog _ _ _ _ from part_int false y ▸ value_ok HOK2.out.core (evInt false y))
  have hsg0 : ¬ y < 0 := by omega
  clear hpow hpow2
  go_enter Try.func30, Try.ntmps30
  go_wp2_with fail
  rw [HW2'.out]
  go_wp2_with fail
  refine HV.out.mono ?_
  rintro e w4 hgv
  obtain ⟨v4, rfl, hown4, hpost4⟩ := hgv
  obtain ⟨av, cv, rfl⟩ := hown4.shape
  have HOWN := Lib.hid hown4
  have HPOST := Lib.hid hpost4
  clear hown4 hpost4
  go_wp2_with fail
  go_ret
  exact HFIN.out _ _ _ _ (Keeps.refl _ _) (by rw [HN.out, HK1.out, told_2, HA.out, hev.out]) ⟨_, rfl, HOWN.out, HPOST.out⟩

set_option maxHeartbeats 3200000 in
set_option maxRecDepth 100000 in
theorem number_k2_4n {N : Int} {w : World} {base b : Nat} {ov sv : Value} {p : Pk} (h : PkOk N w base b ov sv p) (hk : p.kind ≠ 0) (x : Int) (hx0 : 0 ≤ x) (hx1 : x ≤ 255) (hl : ¬ 0 < p.lack - 1) (hk1 : p.kind = 2) (ha : p.all = 4) (hsg : ¬ p.v * 256 + x < 2147483648) :
    Calls Try.prog 30 #[.pointer (some ⟨b, 0, none⟩), .int .u8 x] w (PkGives w base b ov sv (p.number x)) := by
  obtain ⟨n1, n2, n3, n4, n5⟩ := h.fit.num hk
  have hkk := h.fit.kind
  obtain ⟨g0, g1, g2, g3⟩ := pk_facts h.in_
  obtain ⟨f0, f1, f2, f3, hbl⟩ := pk_free h.in_
  have hv : p.v * 256 + x ≤ 18446744073709551615 := by
    have h9 : (256 : Int) ^ (p.all - p.lack).toNat ≤ 72057594037927936 := by
      have : (p.all - p.lack).toNat ≤ 7 := by omega
      generalize (p.all - p.lack).toNat = j at this
      rcases (show j = 0 ∨ j = 1 ∨ j = 2 ∨ j = 3 ∨ j = 4 ∨ j = 5 ∨ j = 6 ∨ j = 7 by omega) with rfl | rfl | rfl | rfl | rfl | rfl | rfl | rfl <;> simp
    omega
  have hbits := or_byte n4 hx0 hx1 hv
  have hv3 : p.v * 256 ≤ 18446744073709551615 := by omega
  have H := Lib.hid h
  clear h
  obtain ⟨res, hres⟩ : ∃ res, p.number x = res := ⟨_, rfl⟩
  rw [hres]
  have HR := Lib.hid hres
  clear hres
  obtain ⟨y, hy⟩ : ∃ y, p.v * 256 + x = y := ⟨_, rfl⟩
  rw [hy] at hbits hv hsg
  have hy0 : 0 ≤ y := by omega
  have HY := Lib.hid hy
  clear hy
  obtain ⟨p2, hp2⟩ : ∃ p2 : Pk, p2 = { p with v := y, lack := p.lack - 1, kind := 0 } := ⟨_, rfl⟩
  obtain ⟨w2, hw2⟩ : ∃ w2, ((w.setCell ⟨b, 15, none⟩ (.int .u64 y)).setCell ⟨b, 13, none⟩ (.int .i64 (p.lack - 1))).setCell ⟨b, 12, none⟩ (.int .i64 0) = w2 := ⟨_, rfl⟩
  have hin2 : PkIn w2 base b ov sv p2 := by
    rw [hp2, ← hw2]
    exact ((H.out.in_.putRest (i := 3) (u := .int .u64 y)).putRest (i := 1) (u := .int .i64 (p.lack - 1))).putRest (i := 0) (u := .int .i64 0)
  have hkp2 : Keeps (coBlks b ov sv) w w2 := by
    rw [← hw2]
    exact (((Keeps.refl _ _).setIn (coBlks_self _ _ _) _).setIn (coBlks_self _ _ _) _).setIn (coBlks_self _ _ _) _
  have HN := Lib.hid (show p.number x = p2.told p.kind p.all y by unfold Pk.number; rw [if_neg hl, HY.out, hp2])
  have hok2 : PkOk N w2 base b ov sv p2 := ⟨hin2, by
    rw [hp2]
    exact ⟨H.out.fit.core, by simp, by simp, by simp, by simp⟩, H.out.big, Nat.le_trans H.out.base_ hkp2.size⟩
  have hfin : ∀ (t : List Ev × Core) (W : World) (r : Ending) (w' : World), Keeps [] w2 W → p.number x = p2.put t → CoreGives W base b 72 (pkRest p2) ov sv t r w' → PkGives w base b ov sv res r w' := fun t W r w' k e h => by
    rw [← HR.out, e]
    exact PkGives.trans (hkp2.trans (k.mono (by simp))) (fun i hi => Or.inl hi) (CoreGives.pk h)
  have hfin2 : ∀ (t : List Ev × Pk) (W : World) (r : Ending) (w' : World), Keeps [] w2 W → p.number x = t → PkGives W base b ov sv t r w' → PkGives w base b ov sv res r w' := fun t W r w' k e h => by
    rw [← HR.out, e]
    exact PkGives.trans (hkp2.trans (k.mono (by simp))) (fun i hi => Or.inl hi) h
  have HW2 := Lib.hid hw2
  have HOK2 := Lib.hid hok2
  have HP2 := Lib.hid hp2
  have HFIN := Lib.hid hfin
  have HFIN2 := Lib.hid hfin2
  obtain ⟨q0, q1, q2, q3⟩ := pk_facts hin2
  obtain ⟨e0, e1, e2, e3, hbl2⟩ := pk_free hin2
  rw [hp2] at q1 q2 q3
  simp only [] at q1 q2 q3
  clear hin2 hkp2 hok2 hp2 hw2 hfin hfin2 q0
  have hl1 : p.lack = 1 := by omega
  rw [hl1] at n5
  have HYE := Lib.hid (show y = p.v * 256 + x from HY.out.symm)
  rw [hk1] at g0
  have HK1 := Lib.hid hk1
  clear hk1
  have HW2' := Lib.hid (show ((w.setCell ⟨b, 15, none⟩ (.int .u64 y)).setCell ⟨b, 13, none⟩ (.int .i64 0)).setCell ⟨b, 12, none⟩ (.int .i64 0) = w2 by rw [← HW2.out, hl1]; rfl)
  rw [ha] at g2 q2 n5
  have hym : y < 4294967296 := by
    have h256 : (256 : Int) ^ ((4 : Int) - 1).toNat = 16777216 := by decide
    rw [h256] at n5
    have := HYE.out
    omega
  have HA := Lib.hid ha
  clear ha n5
  have hpow : (2 : Int) ^ (8 * (4 : Int).toNat - 1) = 2147483648 := by decide
  have hpow2 : (2 : Int) ^ (8 * (4 : Int).toNat) = 4294967296 := by decide
  have hsig : wrap64 (y * 4294967296) / 4294967296 = y - 4294967296 := by unfold wrap64; omega
  have hnot : bits .xor .i64 (-1) (y - 4294967296) = 4294967295 - y := by rw [i64_not (by omega) (by omega)]; omega
  have hwr : IntKind.u64.wrap (4294967295 - y) = 4294967295 - y := IntWalk.u64_in _ (by omega)
  have hev := Lib.hid (show signedEv 4 y = evInt true (4294967295 - y) by unfold signedEv; rw [hpow, hpow2, if_neg hsg]; congr 1)
  have HV := Lib.hid (show Calls Try.prog _ _ _ _ from part_int true (4294967295 - y) ▸ value_ok HOK2.out.core (evInt true (4294967295 - y)))
  clear hpow hpow2
  go_enter Try.func30, Try.ntmps30
  go_wp2_with fail
  rw [HW2'.out]
  go_wp2_with fail
  refine HV.out.mono ?_
  rintro e w4 hgv
  obtain ⟨v4, rfl, hown4, hpost4⟩ := hgv
  obtain ⟨av, cv, rfl⟩ := hown4.shape
  have HOWN := Lib.hid hown4
  have HPOST := Lib.hid hpost4
  clear hown4 hpost4
  go_wp2_with fail
  go_ret
  exact HFIN.out _ _ _ _ (Keeps.refl _ _) (by rw [HN.out, HK1.out, told_2, HA.out, hev.out]) ⟨_, rfl, HOWN.out, HPOST.out⟩

set_option maxHeartbeats 3200000 in
set_option maxRecDepth 100000 in
theorem number_k2_8p {N : Int} {w : World} {base b : Nat} {ov sv : Value} {p : Pk} (h : PkOk N w base b ov sv p) (hk : p.kind ≠ 0) (x : Int) (hx0 : 0 ≤ x) (hx1 : x ≤ 255) (hl : ¬ 0 < p.lack - 1) (hk1 : p.kind = 2) (ha : p.all = 8) (hsg : p.v * 256 + x < 9223372036854775808) :
    Calls Try.prog 30 #[.pointer (some ⟨b, 0, none⟩), .int .u8 x] w (PkGives w base b ov sv (p.number x)) := by
  obtain ⟨n1, n2, n3, n4, n5⟩ := h.fit.num hk
  have hkk := h.fit.kind
  obtain ⟨g0, g1, g2, g3⟩ := pk_facts h.in_
  obtain ⟨f0, f1, f2, f3, hbl⟩ := pk_free h.in_
  have hv : p.v * 256 + x ≤ 18446744073709551615 := by
    have h9 : (256 : Int) ^ (p.all - p.lack).toNat ≤ 72057594037927936 := by
      have : (p.all - p.lack).toNat ≤ 7 := by omega
      generalize (p.all - p.lack).toNat = j at this
      rcases (show j = 0 ∨ j = 1 ∨ j = 2 ∨ j = 3 ∨ j = 4 ∨ j = 5 ∨ j = 6 ∨ j = 7 by omega) with rfl | rfl | rfl | rfl | rfl | rfl | rfl | rfl <;> simp
    omega
  have hbits := or_byte n4 hx0 hx1 hv
  have hv3 : p.v * 256 ≤ 18446744073709551615 := by omega
  have H := Lib.hid h
  clear h
  obtain ⟨res, hres⟩ : ∃ res, p.number x = res := ⟨_, rfl⟩
  rw [hres]
  have HR := Lib.hid hres
  clear hres
  obtain ⟨y, hy⟩ : ∃ y, p.v * 256 + x = y := ⟨_, rfl⟩
  rw [hy] at hbits hv hsg
  have hy0 : 0 ≤ y := by omega
  have HY := Lib.hid hy
  clear hy
  obtain ⟨p2, hp2⟩ : ∃ p2 : Pk, p2 = { p with v := y, lack := p.lack - 1, kind := 0 } := ⟨_, rfl⟩
  obtain ⟨w2, hw2⟩ : ∃ w2, ((w.setCell ⟨b, 15, none⟩ (.int .u64 y)).setCell ⟨b, 13, none⟩ (.int .i64 (p.lack - 1))).setCell ⟨b, 12, none⟩ (.int .i64 0) = w2 := ⟨_, rfl⟩
  have hin2 : PkIn w2 base b ov sv p2 := by
    rw [hp2, ← hw2]
    exact ((H.out.in_.putRest (i := 3) (u := .int .u64 y)).putRest (i := 1) (u := .int .i64 (p.lack - 1))).putRest (i := 0) (u := .int .i64 0)
  have hkp2 : Keeps (coBlks b ov sv) w w2 := by
    rw [← hw2]
    exact (((Keeps.refl _ _).setIn (coBlks_self _ _ _) _).setIn (coBlks_self _ _ _) _).setIn (coBlks_self _ _ _) _
  have HN := Lib.hid (show p.number x = p2.told p.kind p.all y by unfold Pk.number; rw [if_neg hl, HY.out, hp2])
  have hok2 : PkOk N w2 base b ov sv p2 := ⟨hin2, by
    rw [hp2]
    exact ⟨H.out.fit.core, by simp, by simp, by simp, by simp⟩, H.out.big, Nat.le_trans H.out.base_ hkp2.size⟩
  have hfin : ∀ (t : List Ev × Core) (W : World) (r : Ending) (w' : World), Keeps [] w2 W → p.number x = p2.put t → CoreGives W base b 72 (pkRest p2) ov sv t r w' → PkGives w base b ov sv res r w' := fun t W r w' k e h => by
    rw [← HR.out, e]
    exact PkGives.trans (hkp2.trans (k.mono (by simp))) (fun i hi => Or.inl hi) (CoreGives.pk h)
  have hfin2 : ∀ (t : List Ev × Pk) (W : World) (r : Ending) (w' : World), Keeps [] w2 W → p.number x = t → PkGives W base b ov sv t r w' → PkGives w base b ov sv res r w' := fun t W r w' k e h => by
    rw [← HR.out, e]
    exact PkGives.trans (hkp2.trans (k.mono (by simp))) (fun i hi => Or.inl hi) h
  have HW2 := Lib.hid hw2
  have HOK2 := Lib.hid hok2
  have HP2 := Lib.hid hp2
  have HFIN := Lib.hid hfin
  have HFIN2 := Lib.hid hfin2
  obtain ⟨q0, q1, q2, q3⟩ := pk_facts hin2
  obtain ⟨e0, e1, e2, e3, hbl2⟩ := pk_free hin2
  rw [hp2] at q1 q2 q3
  simp only [] at q1 q2 q3
  clear hin2 hkp2 hok2 hp2 hw2 hfin hfin2 q0
  have hl1 : p.lack = 1 := by omega
  rw [hl1] at n5
  have HYE := Lib.hid (show y = p.v * 256 + x from HY.out.symm)
  rw [hk1] at g0
  have HK1 := Lib.hid hk1
  clear hk1
  have HW2' := Lib.hid (show ((w.setCell ⟨b, 15, none⟩ (.int .u64 y)).setCell ⟨b, 13, none⟩ (.int .i64 0)).setCell ⟨b, 12, none⟩ (.int .i64 0) = w2 by rw [← HW2.out, hl1]; rfl)
  rw [ha] at g2 q2 n5
  have hym : y < 18446744073709551616 := by
    have h256 : (256 : Int) ^ ((8 : Int) - 1).toNat = 72057594037927936 := by decide
    rw [h256] at n5
    have := HYE.out
    omega
  have HA := Lib.hid ha
  clear ha n5
  have hpow : (2 : Int) ^ (8 * (8 : Int).toNat - 1) = 9223372036854775808 := by decide
  have hpow2 : (2 : Int) ^ (8 * (8 : Int).toNat) = 18446744073709551616 := by decide
  have hsig : wrap64 y = y := by unfold wrap64; omega
  have hev := Lib.hid (show signedEv 8 y = evInt false y by unfold signedEv; rw [hpow, if_pos hsg])
  have HV := Lib.hid (show Calls Try.prog _ _ _ _ from part_int false y ▸ value_ok HOK2.out.core (evInt false y))
  have hsg0 : ¬ y < 0 := by omega
  clear hpow hpow2
  go_enter Try.func30, Try.ntmps30
  go_wp2_with fail
  rw [HW2'.out]
  go_wp2_with fail
  refine HV.out.mono ?_
  rintro e w4 hgv
  obtain ⟨v4, rfl, hown4, hpost4⟩ := hgv
  obtain ⟨av, cv, rfl⟩ := hown4.shape
  have HOWN := Lib.hid hown4
  have HPOST := Lib.hid hpost4
  clear hown4 hpost4
  go_wp2_with fail
  go_ret
  exact HFIN.out _ _ _ _ (Keeps.refl _ _) (by rw [HN.out, HK1.out, told_2, HA.out, hev.out]) ⟨_, rfl, HOWN.out, HPOST.out⟩

set_option maxHeartbeats 3200000 in
set_option maxRecDepth 100000 in
theorem number_k2_8n {N : Int} {w : World} {base b : Nat} {ov sv : Value} {p : Pk} (h : PkOk N w base b ov sv p) (hk : p.kind ≠ 0) (x : Int) (hx0 : 0 ≤ x) (hx1 : x ≤ 255) (hl : ¬ 0 < p.lack - 1) (hk1 : p.kind = 2) (ha : p.all = 8) (hsg : ¬ p.v * 256 + x < 9223372036854775808) :
    Calls Try.prog 30 #[.pointer (some ⟨b, 0, none⟩), .int .u8 x] w (PkGives w base b ov sv (p.number x)) := by
  obtain ⟨n1, n2, n3, n4, n5⟩ := h.fit.num hk
  have hkk := h.fit.kind
  obtain ⟨g0, g1, g2, g3⟩ := pk_facts h.in_
  obtain ⟨f0, f1, f2, f3, hbl⟩ := pk_free h.in_
  have hv : p.v * 256 + x ≤ 18446744073709551615 := by
    have h9 : (256 : Int) ^ (p.all - p.lack).toNat ≤ 72057594037927936 := by
      have : (p.all - p.lack).toNat ≤ 7 := by omega
      generalize (p.all - p.lack).toNat = j at this
      rcases (show j = 0 ∨ j = 1 ∨ j = 2 ∨ j = 3 ∨ j = 4 ∨ j = 5 ∨ j = 6 ∨ j = 7 by omega) with rfl | rfl | rfl | rfl | rfl | rfl | rfl | rfl <;> simp
    omega
  have hbits := or_byte n4 hx0 hx1 hv
  have hv3 : p.v * 256 ≤ 18446744073709551615 := by omega
  have H := Lib.hid h
  clear h
  obtain ⟨res, hres⟩ : ∃ res, p.number x = res := ⟨_, rfl⟩
  rw [hres]
  have HR := Lib.hid hres
  clear hres
  obtain ⟨y, hy⟩ : ∃ y, p.v * 256 + x = y := ⟨_, rfl⟩
  rw [hy] at hbits hv hsg
  have hy0 : 0 ≤ y := by omega
  have HY := Lib.hid hy
  clear hy
  obtain ⟨p2, hp2⟩ : ∃ p2 : Pk, p2 = { p with v := y, lack := p.lack - 1, kind := 0 } := ⟨_, rfl⟩
  obtain ⟨w2, hw2⟩ : ∃ w2, ((w.setCell ⟨b, 15, none⟩ (.int .u64 y)).setCell ⟨b, 13, none⟩ (.int .i64 (p.lack - 1))).setCell ⟨b, 12, none⟩ (.int .i64 0) = w2 := ⟨_, rfl⟩
  have hin2 : PkIn w2 base b ov sv p2 := by
    rw [hp2, ← hw2]
    exact ((H.out.in_.putRest (i := 3) (u := .int .u64 y)).putRest (i := 1) (u := .int .i64 (p.lack - 1))).putRest (i := 0) (u := .int .i64 0)
  have hkp2 : Keeps (coBlks b ov sv) w w2 := by
    rw [← hw2]
    exact (((Keeps.refl _ _).setIn (coBlks_self _ _ _) _).setIn (coBlks_self _ _ _) _).setIn (coBlks_self _ _ _) _
  have HN := Lib.hid (show p.number x = p2.told p.kind p.all y by unfold Pk.number; rw [if_neg hl, HY.out, hp2])
  have hok2 : PkOk N w2 base b ov sv p2 := ⟨hin2, by
    rw [hp2]
    exact ⟨H.out.fit.core, by simp, by simp, by simp, by simp⟩, H.out.big, Nat.le_trans H.out.base_ hkp2.size⟩
  have hfin : ∀ (t : List Ev × Core) (W : World) (r : Ending) (w' : World), Keeps [] w2 W → p.number x = p2.put t → CoreGives W base b 72 (pkRest p2) ov sv t r w' → PkGives w base b ov sv res r w' := fun t W r w' k e h => by
    rw [← HR.out, e]
    exact PkGives.trans (hkp2.trans (k.mono (by simp))) (fun i hi => Or.inl hi) (CoreGives.pk h)
  have hfin2 : ∀ (t : List Ev × Pk) (W : World) (r : Ending) (w' : World), Keeps [] w2 W → p.number x = t → PkGives W base b ov sv t r w' → PkGives w base b ov sv res r w' := fun t W r w' k e h => by
    rw [← HR.out, e]
    exact PkGives.trans (hkp2.trans (k.mono (by simp))) (fun i hi => Or.inl hi) h
  have HW2 := Lib.hid hw2
  have HOK2 := Lib.hid hok2
  have HP2 := Lib.hid hp2
  have HFIN := Lib.hid hfin
  have HFIN2 := Lib.hid hfin2
  obtain ⟨q0, q1, q2, q3⟩ := pk_facts hin2
  obtain ⟨e0, e1, e2, e3, hbl2⟩ := pk_free hin2
  rw [hp2] at q1 q2 q3
  simp only [] at q1 q2 q3
  clear hin2 hkp2 hok2 hp2 hw2 hfin hfin2 q0
  have hl1 : p.lack = 1 := by omega
  rw [hl1] at n5
  have HYE := Lib.hid (show y = p.v * 256 + x from HY.out.symm)
  rw [hk1] at g0
  have HK1 := Lib.hid hk1
  clear hk1
  have HW2' := Lib.hid (show ((w.setCell ⟨b, 15, none⟩ (.int .u64 y)).setCell ⟨b, 13, none⟩ (.int .i64 0)).setCell ⟨b, 12, none⟩ (.int .i64 0) = w2 by rw [← HW2.out, hl1]; rfl)
  rw [ha] at g2 q2 n5
  have hym : y < 18446744073709551616 := by
    have h256 : (256 : Int) ^ ((8 : Int) - 1).toNat = 72057594037927936 := by decide
    rw [h256] at n5
    have := HYE.out
    omega
  have HA := Lib.hid ha
  clear ha n5
  have hpow : (2 : Int) ^ (8 * (8 : Int).toNat - 1) = 9223372036854775808 := by decide
  have hpow2 : (2 : Int) ^ (8 * (8 : Int).toNat) = 18446744073709551616 := by decide
  have hsig : wrap64 y = y - 18446744073709551616 := by unfold wrap64; omega
  have hnot : bits .xor .i64 (-1) (y - 18446744073709551616) = 18446744073709551615 - y := by rw [i64_not (by omega) (by omega)]; omega
  have hwr : IntKind.u64.wrap (18446744073709551615 - y) = 18446744073709551615 - y := IntWalk.u64_in _ (by omega)
  have hev := Lib.hid (show signedEv 8 y = evInt true (18446744073709551615 - y) by unfold signedEv; rw [hpow, hpow2, if_neg hsg]; congr 1)
  have HV := Lib.hid (show Calls Try.prog _ _ _ _ from part_int true (18446744073709551615 - y) ▸ value_ok HOK2.out.core (evInt true (18446744073709551615 - y)))
  clear hpow hpow2
  go_enter Try.func30, Try.ntmps30
  go_wp2_with fail
  rw [HW2'.out]
  go_wp2_with fail
  refine HV.out.mono ?_
  rintro e w4 hgv
  obtain ⟨v4, rfl, hown4, hpost4⟩ := hgv
  obtain ⟨av, cv, rfl⟩ := hown4.shape
  have HOWN := Lib.hid hown4
  have HPOST := Lib.hid hpost4
  clear hown4 hpost4
  go_wp2_with fail
  go_ret
  exact HFIN.out _ _ _ _ (Keeps.refl _ _) (by rw [HN.out, HK1.out, told_2, HA.out, hev.out]) ⟨_, rfl, HOWN.out, HPOST.out⟩

set_option maxHeartbeats 3200000 in
set_option maxRecDepth 100000 in
theorem number_k3 {N : Int} {w : World} {base b : Nat} {ov sv : Value} {p : Pk} (h : PkOk N w base b ov sv p) (hk : p.kind ≠ 0) (x : Int) (hx0 : 0 ≤ x) (hx1 : x ≤ 255) (hl : ¬ 0 < p.lack - 1) (hk1 : p.kind = 3) :
    Calls Try.prog 30 #[.pointer (some ⟨b, 0, none⟩), .int .u8 x] w (PkGives w base b ov sv (p.number x)) := by
  obtain ⟨n1, n2, n3, n4, n5⟩ := h.fit.num hk
  have hkk := h.fit.kind
  obtain ⟨g0, g1, g2, g3⟩ := pk_facts h.in_
  obtain ⟨f0, f1, f2, f3, hbl⟩ := pk_free h.in_
  have hv : p.v * 256 + x ≤ 18446744073709551615 := by
    have h9 : (256 : Int) ^ (p.all - p.lack).toNat ≤ 72057594037927936 := by
      have : (p.all - p.lack).toNat ≤ 7 := by omega
      generalize (p.all - p.lack).toNat = j at this
      rcases (show j = 0 ∨ j = 1 ∨ j = 2 ∨ j = 3 ∨ j = 4 ∨ j = 5 ∨ j = 6 ∨ j = 7 by omega) with rfl | rfl | rfl | rfl | rfl | rfl | rfl | rfl <;> simp
    omega
  have hbits := or_byte n4 hx0 hx1 hv
  have hv3 : p.v * 256 ≤ 18446744073709551615 := by omega
  have H := Lib.hid h
  clear h
  obtain ⟨res, hres⟩ : ∃ res, p.number x = res := ⟨_, rfl⟩
  rw [hres]
  have HR := Lib.hid hres
  clear hres
  obtain ⟨y, hy⟩ : ∃ y, p.v * 256 + x = y := ⟨_, rfl⟩
  rw [hy] at hbits hv
  have hy0 : 0 ≤ y := by omega
  have HY := Lib.hid hy
  clear hy
  obtain ⟨p2, hp2⟩ : ∃ p2 : Pk, p2 = { p with v := y, lack := p.lack - 1, kind := 0 } := ⟨_, rfl⟩
  obtain ⟨w2, hw2⟩ : ∃ w2, ((w.setCell ⟨b, 15, none⟩ (.int .u64 y)).setCell ⟨b, 13, none⟩ (.int .i64 (p.lack - 1))).setCell ⟨b, 12, none⟩ (.int .i64 0) = w2 := ⟨_, rfl⟩
  have hin2 : PkIn w2 base b ov sv p2 := by
    rw [hp2, ← hw2]
    exact ((H.out.in_.putRest (i := 3) (u := .int .u64 y)).putRest (i := 1) (u := .int .i64 (p.lack - 1))).putRest (i := 0) (u := .int .i64 0)
  have hkp2 : Keeps (coBlks b ov sv) w w2 := by
    rw [← hw2]
    exact (((Keeps.refl _ _).setIn (coBlks_self _ _ _) _).setIn (coBlks_self _ _ _) _).setIn (coBlks_self _ _ _) _
  have HN := Lib.hid (show p.number x = p2.told p.kind p.all y by unfold Pk.number; rw [if_neg hl, HY.out, hp2])
  have hok2 : PkOk N w2 base b ov sv p2 := ⟨hin2, by
    rw [hp2]
    exact ⟨H.out.fit.core, by simp, by simp, by simp, by simp⟩, H.out.big, Nat.le_trans H.out.base_ hkp2.size⟩
  have hfin : ∀ (t : List Ev × Core) (W : World) (r : Ending) (w' : World), Keeps [] w2 W → p.number x = p2.put t → CoreGives W base b 72 (pkRest p2) ov sv t r w' → PkGives w base b ov sv res r w' := fun t W r w' k e h => by
    rw [← HR.out, e]
    exact PkGives.trans (hkp2.trans (k.mono (by simp))) (fun i hi => Or.inl hi) (CoreGives.pk h)
  have hfin2 : ∀ (t : List Ev × Pk) (W : World) (r : Ending) (w' : World), Keeps [] w2 W → p.number x = t → PkGives W base b ov sv t r w' → PkGives w base b ov sv res r w' := fun t W r w' k e h => by
    rw [← HR.out, e]
    exact PkGives.trans (hkp2.trans (k.mono (by simp))) (fun i hi => Or.inl hi) h
  have HW2 := Lib.hid hw2
  have HOK2 := Lib.hid hok2
  have HP2 := Lib.hid hp2
  have HFIN := Lib.hid hfin
  have HFIN2 := Lib.hid hfin2
  obtain ⟨q0, q1, q2, q3⟩ := pk_facts hin2
  obtain ⟨e0, e1, e2, e3, hbl2⟩ := pk_free hin2
  rw [hp2] at q1 q2 q3
  simp only [] at q1 q2 q3
  clear hin2 hkp2 hok2 hp2 hw2 hfin hfin2 q0
  have hv := fun W (k : Keeps [] w2 W) => length_any (HOK2.out.core.keep0 k) false y hy0 hv
  have HV := Lib.hid hv
  rw [hk1] at g0
  have HK1 := Lib.hid hk1
  clear hv hk1
  go_enter Try.func30, Try.ntmps30
  go_wp2_with fail
  rw [HW2.out]
  go_region_with (go_at_call 45; refine (HV.out _ ((Keeps.refl _ _).drew)).mono ?_; rintro e w4 hgv; obtain ⟨v4, rfl, hown4, hpost4⟩ := hgv)
  all_goals
    obtain ⟨av, cv, rfl⟩ := hown4.shape
    have HOWN := Lib.hid hown4
    have HPOST := Lib.hid hpost4
    clear hown4 hpost4
    go_wp2_with fail
    go_ret
    exact HFIN.out _ _ _ _ ((Keeps.refl _ _).drew) (by rw [HN.out, HK1.out, told_3]) ⟨_, rfl, HOWN.out, HPOST.out⟩

set_option maxHeartbeats 3200000 in
set_option maxRecDepth 100000 in
theorem number_k4 {N : Int} {w : World} {base b : Nat} {ov sv : Value} {p : Pk} (h : PkOk N w base b ov sv p) (hk : p.kind ≠ 0) (x : Int) (hx0 : 0 ≤ x) (hx1 : x ≤ 255) (hl : ¬ 0 < p.lack - 1) (hk1 : p.kind = 4) :
    Calls Try.prog 30 #[.pointer (some ⟨b, 0, none⟩), .int .u8 x] w (PkGives w base b ov sv (p.number x)) := by
  obtain ⟨n1, n2, n3, n4, n5⟩ := h.fit.num hk
  have hkk := h.fit.kind
  obtain ⟨g0, g1, g2, g3⟩ := pk_facts h.in_
  obtain ⟨f0, f1, f2, f3, hbl⟩ := pk_free h.in_
  have hv : p.v * 256 + x ≤ 18446744073709551615 := by
    have h9 : (256 : Int) ^ (p.all - p.lack).toNat ≤ 72057594037927936 := by
      have : (p.all - p.lack).toNat ≤ 7 := by omega
      generalize (p.all - p.lack).toNat = j at this
      rcases (show j = 0 ∨ j = 1 ∨ j = 2 ∨ j = 3 ∨ j = 4 ∨ j = 5 ∨ j = 6 ∨ j = 7 by omega) with rfl | rfl | rfl | rfl | rfl | rfl | rfl | rfl <;> simp
    omega
  have hbits := or_byte n4 hx0 hx1 hv
  have hv3 : p.v * 256 ≤ 18446744073709551615 := by omega
  have H := Lib.hid h
  clear h
  obtain ⟨res, hres⟩ : ∃ res, p.number x = res := ⟨_, rfl⟩
  rw [hres]
  have HR := Lib.hid hres
  clear hres
  obtain ⟨y, hy⟩ : ∃ y, p.v * 256 + x = y := ⟨_, rfl⟩
  rw [hy] at hbits hv
  have hy0 : 0 ≤ y := by omega
  have HY := Lib.hid hy
  clear hy
  obtain ⟨p2, hp2⟩ : ∃ p2 : Pk, p2 = { p with v := y, lack := p.lack - 1, kind := 0 } := ⟨_, rfl⟩
  obtain ⟨w2, hw2⟩ : ∃ w2, ((w.setCell ⟨b, 15, none⟩ (.int .u64 y)).setCell ⟨b, 13, none⟩ (.int .i64 (p.lack - 1))).setCell ⟨b, 12, none⟩ (.int .i64 0) = w2 := ⟨_, rfl⟩
  have hin2 : PkIn w2 base b ov sv p2 := by
    rw [hp2, ← hw2]
    exact ((H.out.in_.putRest (i := 3) (u := .int .u64 y)).putRest (i := 1) (u := .int .i64 (p.lack - 1))).putRest (i := 0) (u := .int .i64 0)
  have hkp2 : Keeps (coBlks b ov sv) w w2 := by
    rw [← hw2]
    exact (((Keeps.refl _ _).setIn (coBlks_self _ _ _) _).setIn (coBlks_self _ _ _) _).setIn (coBlks_self _ _ _) _
  have HN := Lib.hid (show p.number x = p2.told p.kind p.all y by unfold Pk.number; rw [if_neg hl, HY.out, hp2])
  have hok2 : PkOk N w2 base b ov sv p2 := ⟨hin2, by
    rw [hp2]
    exact ⟨H.out.fit.core, by simp, by simp, by simp, by simp⟩, H.out.big, Nat.le_trans H.out.base_ hkp2.size⟩
  have hfin : ∀ (t : List Ev × Core) (W : World) (r : Ending) (w' : World), Keeps [] w2 W → p.number x = p2.put t → CoreGives W base b 72 (pkRest p2) ov sv t r w' → PkGives w base b ov sv res r w' := fun t W r w' k e h => by
    rw [← HR.out, e]
    exact PkGives.trans (hkp2.trans (k.mono (by simp))) (fun i hi => Or.inl hi) (CoreGives.pk h)
  have hfin2 : ∀ (t : List Ev × Pk) (W : World) (r : Ending) (w' : World), Keeps [] w2 W → p.number x = t → PkGives W base b ov sv t r w' → PkGives w base b ov sv res r w' := fun t W r w' k e h => by
    rw [← HR.out, e]
    exact PkGives.trans (hkp2.trans (k.mono (by simp))) (fun i hi => Or.inl hi) h
  have HW2 := Lib.hid hw2
  have HOK2 := Lib.hid hok2
  have HP2 := Lib.hid hp2
  have HFIN := Lib.hid hfin
  have HFIN2 := Lib.hid hfin2
  obtain ⟨q0, q1, q2, q3⟩ := pk_facts hin2
  obtain ⟨e0, e1, e2, e3, hbl2⟩ := pk_free hin2
  rw [hp2] at q1 q2 q3
  simp only [] at q1 q2 q3
  clear hin2 hkp2 hok2 hp2 hw2 hfin hfin2 q0
  have hv := fun W (k : Keeps [] w2 W) => length_any (HOK2.out.core.keep0 k) true y hy0 hv
  have HV := Lib.hid hv
  rw [hk1] at g0
  have HK1 := Lib.hid hk1
  clear hv hk1
  go_enter Try.func30, Try.ntmps30
  go_wp2_with fail
  rw [HW2.out]
  go_region_with (go_at_call 45; refine (HV.out _ ((Keeps.refl _ _).drew)).mono ?_; rintro e w4 hgv; obtain ⟨v4, rfl, hown4, hpost4⟩ := hgv)
  all_goals
    obtain ⟨av, cv, rfl⟩ := hown4.shape
    have HOWN := Lib.hid hown4
    have HPOST := Lib.hid hpost4
    clear hown4 hpost4
    go_wp2_with fail
    go_ret
    exact HFIN.out _ _ _ _ ((Keeps.refl _ _).drew) (by rw [HN.out, HK1.out, told_4]) ⟨_, rfl, HOWN.out, HPOST.out⟩

set_option maxHeartbeats 3200000 in
set_option maxRecDepth 100000 in
theorem number_k5 {N : Int} {w : World} {base b : Nat} {ov sv : Value} {p : Pk} (h : PkOk N w base b ov sv p) (hk : p.kind ≠ 0) (x : Int) (hx0 : 0 ≤ x) (hx1 : x ≤ 255) (hl : ¬ 0 < p.lack - 1) (hk1 : p.kind = 5) :
    Calls Try.prog 30 #[.pointer (some ⟨b, 0, none⟩), .int .u8 x] w (PkGives w base b ov sv (p.number x)) := by
  obtain ⟨n1, n2, n3, n4, n5⟩ := h.fit.num hk
  have hkk := h.fit.kind
  obtain ⟨g0, g1, g2, g3⟩ := pk_facts h.in_
  obtain ⟨f0, f1, f2, f3, hbl⟩ := pk_free h.in_
  have hv : p.v * 256 + x ≤ 18446744073709551615 := by
    have h9 : (256 : Int) ^ (p.all - p.lack).toNat ≤ 72057594037927936 := by
      have : (p.all - p.lack).toNat ≤ 7 := by omega
      generalize (p.all - p.lack).toNat = j at this
      rcases (show j = 0 ∨ j = 1 ∨ j = 2 ∨ j = 3 ∨ j = 4 ∨ j = 5 ∨ j = 6 ∨ j = 7 by omega) with rfl | rfl | rfl | rfl | rfl | rfl | rfl | rfl <;> simp
    omega
  have hbits := or_byte n4 hx0 hx1 hv
  have hv3 : p.v * 256 ≤ 18446744073709551615 := by omega
  have H := Lib.hid h
  clear h
  obtain ⟨res, hres⟩ : ∃ res, p.number x = res := ⟨_, rfl⟩
  rw [hres]
  have HR := Lib.hid hres
  clear hres
  obtain ⟨y, hy⟩ : ∃ y, p.v * 256 + x = y := ⟨_, rfl⟩
  rw [hy] at hbits hv
  have hy0 : 0 ≤ y := by omega
  have HY := Lib.hid hy
  clear hy
  obtain ⟨p2, hp2⟩ : ∃ p2 : Pk, p2 = { p with v := y, lack := p.lack - 1, kind := 0 } := ⟨_, rfl⟩
  obtain ⟨w2, hw2⟩ : ∃ w2, ((w.setCell ⟨b, 15, none⟩ (.int .u64 y)).setCell ⟨b, 13, none⟩ (.int .i64 (p.lack - 1))).setCell ⟨b, 12, none⟩ (.int .i64 0) = w2 := ⟨_, rfl⟩
  have hin2 : PkIn w2 base b ov sv p2 := by
    rw [hp2, ← hw2]
    exact ((H.out.in_.putRest (i := 3) (u := .int .u64 y)).putRest (i := 1) (u := .int .i64 (p.lack - 1))).putRest (i := 0) (u := .int .i64 0)
  have hkp2 : Keeps (coBlks b ov sv) w w2 := by
    rw [← hw2]
    exact (((Keeps.refl _ _).setIn (coBlks_self _ _ _) _).setIn (coBlks_self _ _ _) _).setIn (coBlks_self _ _ _) _
  have HN := Lib.hid (show p.number x = p2.told p.kind p.all y by unfold Pk.number; rw [if_neg hl, HY.out, hp2])
  have hok2 : PkOk N w2 base b ov sv p2 := ⟨hin2, by
    rw [hp2]
    exact ⟨H.out.fit.core, by simp, by simp, by simp, by simp⟩, H.out.big, Nat.le_trans H.out.base_ hkp2.size⟩
  have hfin : ∀ (t : List Ev × Core) (W : World) (r : Ending) (w' : World), Keeps [] w2 W → p.number x = p2.put t → CoreGives W base b 72 (pkRest p2) ov sv t r w' → PkGives w base b ov sv res r w' := fun t W r w' k e h => by
    rw [← HR.out, e]
    exact PkGives.trans (hkp2.trans (k.mono (by simp))) (fun i hi => Or.inl hi) (CoreGives.pk h)
  have hfin2 : ∀ (t : List Ev × Pk) (W : World) (r : Ending) (w' : World), Keeps [] w2 W → p.number x = t → PkGives W base b ov sv t r w' → PkGives w base b ov sv res r w' := fun t W r w' k e h => by
    rw [← HR.out, e]
    exact PkGives.trans (hkp2.trans (k.mono (by simp))) (fun i hi => Or.inl hi) h
  have HW2 := Lib.hid hw2
  have HOK2 := Lib.hid hok2
  have HP2 := Lib.hid hp2
  have HFIN := Lib.hid hfin
  have HFIN2 := Lib.hid hfin2
  obtain ⟨q0, q1, q2, q3⟩ := pk_facts hin2
  obtain ⟨e0, e1, e2, e3, hbl2⟩ := pk_free hin2
  rw [hp2] at q1 q2 q3
  simp only [] at q1 q2 q3
  clear hin2 hkp2 hok2 hp2 hw2 hfin hfin2 q0
  have hv := pcount_any HOK2.out false y hy0 hv
  have HV := Lib.hid hv
  rw [hk1] at g0
  have HK1 := Lib.hid hk1
  clear hv hk1
  go_enter Try.func30, Try.ntmps30
  go_wp2_with fail
  rw [HW2.out]
  go_wp2_with fail
  refine HV.out.mono ?_
  rintro e w4 hgv
  obtain ⟨v4, rfl, hown4, hpost4⟩ := hgv
  obtain ⟨av, cv, rfl⟩ := hown4.shape
  have HOWN := Lib.hid hown4
  have HPOST := Lib.hid hpost4
  clear hown4 hpost4
  go_wp2_with fail
  go_ret
  exact HFIN2.out _ _ _ _ (Keeps.refl _ _) (by rw [HN.out, HK1.out, told_5]) ⟨_, rfl, HOWN.out, HPOST.out⟩

set_option maxHeartbeats 3200000 in
set_option maxRecDepth 100000 in
theorem number_k6 {N : Int} {w : World} {base b : Nat} {ov sv : Value} {p : Pk} (h : PkOk N w base b ov sv p) (hk : p.kind ≠ 0) (x : Int) (hx0 : 0 ≤ x) (hx1 : x ≤ 255) (hl : ¬ 0 < p.lack - 1) (hk1 : p.kind = 6) :
    Calls Try.prog 30 #[.pointer (some ⟨b, 0, none⟩), .int .u8 x] w (PkGives w base b ov sv (p.number x)) := by
  obtain ⟨n1, n2, n3, n4, n5⟩ := h.fit.num hk
  have hkk := h.fit.kind
  obtain ⟨g0, g1, g2, g3⟩ := pk_facts h.in_
  obtain ⟨f0, f1, f2, f3, hbl⟩ := pk_free h.in_
  have hv : p.v * 256 + x ≤ 18446744073709551615 := by
    have h9 : (256 : Int) ^ (p.all - p.lack).toNat ≤ 72057594037927936 := by
      have : (p.all - p.lack).toNat ≤ 7 := by omega
      generalize (p.all - p.lack).toNat = j at this
      rcases (show j = 0 ∨ j = 1 ∨ j = 2 ∨ j = 3 ∨ j = 4 ∨ j = 5 ∨ j = 6 ∨ j = 7 by omega) with rfl | rfl | rfl | rfl | rfl | rfl | rfl | rfl <;> simp
    omega
  have hbits := or_byte n4 hx0 hx1 hv
  have hv3 : p.v * 256 ≤ 18446744073709551615 := by omega
  have H := Lib.hid h
  clear h
  obtain ⟨res, hres⟩ : ∃ res, p.number x = res := ⟨_, rfl⟩
  rw [hres]
  have HR := Lib.hid hres
  clear hres
  obtain ⟨y, hy⟩ : ∃ y, p.v * 256 + x = y := ⟨_, rfl⟩
  rw [hy] at hbits hv
  have hy0 : 0 ≤ y := by omega
  have HY := Lib.hid hy
  clear hy
  obtain ⟨p2, hp2⟩ : ∃ p2 : Pk, p2 = { p with v := y, lack := p.lack - 1, kind := 0 } := ⟨_, rfl⟩
  obtain ⟨w2, hw2⟩ : ∃ w2, ((w.setCell ⟨b, 15, none⟩ (.int .u64 y)).setCell ⟨b, 13, none⟩ (.int .i64 (p.lack - 1))).setCell ⟨b, 12, none⟩ (.int .i64 0) = w2 := ⟨_, rfl⟩
  have hin2 : PkIn w2 base b ov sv p2 := by
    rw [hp2, ← hw2]
    exact ((H.out.in_.putRest (i := 3) (u := .int .u64 y)).putRest (i := 1) (u := .int .i64 (p.lack - 1))).putRest (i := 0) (u := .int .i64 0)
  have hkp2 : Keeps (coBlks b ov sv) w w2 := by
    rw [← hw2]
    exact (((Keeps.refl _ _).setIn (coBlks_self _ _ _) _).setIn (coBlks_self _ _ _) _).setIn (coBlks_self _ _ _) _
  have HN := Lib.hid (show p.number x = p2.told p.kind p.all y by unfold Pk.number; rw [if_neg hl, HY.out, hp2])
  have hok2 : PkOk N w2 base b ov sv p2 := ⟨hin2, by
    rw [hp2]
    exact ⟨H.out.fit.core, by simp, by simp, by simp, by simp⟩, H.out.big, Nat.le_trans H.out.base_ hkp2.size⟩
  have hfin : ∀ (t : List Ev × Core) (W : World) (r : Ending) (w' : World), Keeps [] w2 W → p.number x = p2.put t → CoreGives W base b 72 (pkRest p2) ov sv t r w' → PkGives w base b ov sv res r w' := fun t W r w' k e h => by
    rw [← HR.out, e]
    exact PkGives.trans (hkp2.trans (k.mono (by simp))) (fun i hi => Or.inl hi) (CoreGives.pk h)
  have hfin2 : ∀ (t : List Ev × Pk) (W : World) (r : Ending) (w' : World), Keeps [] w2 W → p.number x = t → PkGives W base b ov sv t r w' → PkGives w base b ov sv res r w' := fun t W r w' k e h => by
    rw [← HR.out, e]
    exact PkGives.trans (hkp2.trans (k.mono (by simp))) (fun i hi => Or.inl hi) h
  have HW2 := Lib.hid hw2
  have HOK2 := Lib.hid hok2
  have HP2 := Lib.hid hp2
  have HFIN := Lib.hid hfin
  have HFIN2 := Lib.hid hfin2
  obtain ⟨q0, q1, q2, q3⟩ := pk_facts hin2
  obtain ⟨e0, e1, e2, e3, hbl2⟩ := pk_free hin2
  rw [hp2] at q1 q2 q3
  simp only [] at q1 q2 q3
  clear hin2 hkp2 hok2 hp2 hw2 hfin hfin2 q0
  have hv := pcount_any HOK2.out true y hy0 hv
  have HV := Lib.hid hv
  rw [hk1] at g0
  have HK1 := Lib.hid hk1
  clear hv hk1
  go_enter Try.func30, Try.ntmps30
  go_wp2_with fail
  rw [HW2.out]
  go_wp2_with fail
  refine HV.out.mono ?_
  rintro e w4 hgv
  obtain ⟨v4, rfl, hown4, hpost4⟩ := hgv
  obtain ⟨av, cv, rfl⟩ := hown4.shape
  have HOWN := Lib.hid hown4
  have HPOST := Lib.hid hpost4
  clear hown4 hpost4
  go_wp2_with fail
  go_ret
  exact HFIN2.out _ _ _ _ (Keeps.refl _ _) (by rw [HN.out, HK1.out, told_6]) ⟨_, rfl, HOWN.out, HPOST.out⟩

theorem number_any {N : Int} {w : World} {base b : Nat} {ov sv : Value} {p : Pk} (h : PkOk N w base b ov sv p) (hk : p.kind ≠ 0) (x : Int) (hx0 : 0 ≤ x) (hx1 : x ≤ 255) :
    Calls Try.prog 30 #[.pointer (some ⟨b, 0, none⟩), .int .u8 x] w (PkGives w base b ov sv (p.number x)) := by
  have hn := h.fit.num hk
  have hkk := h.fit.kind
  by_cases hl : 0 < p.lack - 1
  · exact number_more h hk x hx0 hx1 hl
  rcases (show p.kind = 1 ∨ p.kind = 2 ∨ p.kind = 3 ∨ p.kind = 4 ∨ p.kind = 5 ∨ p.kind = 6 by omega) with hk1 | hk1 | hk1 | hk1 | hk1 | hk1
  · exact number_k1 h hk x hx0 hx1 hl hk1
  · rcases hn.2.2.1 with ha | ha | ha | ha
    · by_cases hsg : p.v * 256 + x < 128
      · exact number_k2_1p h hk x hx0 hx1 hl hk1 ha hsg
      · exact number_k2_1n h hk x hx0 hx1 hl hk1 ha hsg
    · by_cases hsg : p.v * 256 + x < 32768
      · exact number_k2_2p h hk x hx0 hx1 hl hk1 ha hsg
      · exact number_k2_2n h hk x hx0 hx1 hl hk1 ha hsg
    · by_cases hsg : p.v * 256 + x < 2147483648
      · exact number_k2_4p h hk x hx0 hx1 hl hk1 ha hsg
      · exact number_k2_4n h hk x hx0 hx1 hl hk1 ha hsg
    · by_cases hsg : p.v * 256 + x < 9223372036854775808
      · exact number_k2_8p h hk x hx0 hx1 hl hk1 ha hsg
      · exact number_k2_8n h hk x hx0 hx1 hl hk1 ha hsg
  · exact number_k3 h hk x hx0 hx1 hl hk1
  · exact number_k4 h hk x hx0 hx1 hl hk1
  · exact number_k5 h hk x hx0 hx1 hl hk1
  · exact number_k6 h hk x hx0 hx1 hl hk1
end Go.Proofs.Ytmcbdkhlbmhfeaa
