/-
  packin.Parser's item: its contract.
-/
import Derived.Test.YtmcbdkhlbmhfeaaPackNum
import Derived.Test.YtmcbdkhlbmhfeaaPackLong
namespace Go.Tru
theorem u8_not' {n : Int} (h0 : 0 ≤ n) (h1 : n ≤ 255) : bits .xor .u8 (-1) n = 255 - n := by
  have h2 : BitVec.ofInt 8 (-1) ^^^ BitVec.ofInt 8 n = ~~~ (BitVec.ofInt 8 n) := by
    rw [show BitVec.ofInt 8 (-1) = BitVec.allOnes 8 by decide, BitVec.allOnes_xor]
  have h3 : bits .xor .u8 (-1) n = IntKind.u8.wrap ((BitVec.ofInt 8 (-1) ^^^ BitVec.ofInt 8 n).toNat : Int) := rfl
  rw [h3, h2, BitVec.toNat_not, BitVec.toNat_ofInt, IntKind.wrap_u8]
  omega
theorem pk_and15 {n : Int} (h0 : 0 ≤ n) (h1 : n ≤ 255) : bits .and .u8 n 15 = n % 16 := by
  rw [u8_and _ _ h0 (by omega) (by omega) (by omega), show (15 : Int).toNat = 2 ^ 4 - 1 from rfl, Nat.and_two_pow_sub_one_eq_mod]
  omega
theorem pk_and31 {n : Int} (h0 : 0 ≤ n) (h1 : n ≤ 255) : bits .and .u8 n 31 = n % 32 := by
  rw [u8_and _ _ h0 (by omega) (by omega) (by omega), show (31 : Int).toNat = 2 ^ 5 - 1 from rfl, Nat.and_two_pow_sub_one_eq_mod]
  omega
end Go.Tru
namespace Go.Proofs.Ytmcbdkhlbmhfeaa
open Go.RowKit Go.Tru

set_option maxHeartbeats 1600000 in
set_option maxRecDepth 100000 in
theorem item_done {N : Int} {w : World} {base b : Nat} {ov sv : Value} {p : Pk} (h : PkOk N w base b ov sv p) (x : Int) (hx0 : 0 ≤ x) (hx1 : x ≤ 255) (hd : p.c.done = true) :
    Calls Try.prog 31 #[.pointer (some ⟨b, 0, none⟩), .int .u8 x] w (PkGives w base b ov sv (p.item x)) := by
  have hbl := h.in_.blk.lt
  have H := Lib.hid h
  have HD := Lib.hid (fun W (k : Keeps [] w W) => coreDone_any p.c W base b _ _ ov sv (h.core.keep0 k).in_)
  have HA := Lib.hid (atKey_any p.c w base b _ _ ov sv h.core.in_ h.core.opens (fun c hc => by have := h.core.parts c hc; have := h.core.big; omega))
  have HFU := Lib.hid (coreFull_any p.c w base b _ _ ov sv h.core.in_)
  have HFA := Lib.hid (fun e W (k : Keeps [] w W) => fail_gives e p.c W base b _ _ ov sv (h.core.keep0 k).in_)
  have HT := Lib.hid (isText_any x hx0 hx1)
  have HC := Lib.hid (isCont_any x hx0 hx1)
  clear h
  obtain ⟨res, hres⟩ : ∃ res, p.item x = res := ⟨_, rfl⟩
  rw [hres]
  have HR := Lib.hid hres
  clear hres
  have K1 := Lib.hid (Keeps.refl [] w)
  go_enter Try.func31, Try.ntmps31
  go_wp2_with fail
  refine (HD.out w (Keeps.refl _ _)).mono ?_
  rintro e w' ⟨rfl, rfl⟩
  rw [hd]
  have HDD := Lib.hid hd
  clear hd
  go_wp2_with fail
  refine (HFA.out 2 w (Keeps.refl _ _)).mono ?_
  rintro e w9 hg9
  have hg9 := CoreGives.pk hg9
  obtain ⟨v9, rfl, hown9, hpost9⟩ := hg9
  obtain ⟨av9, cv9, rfl⟩ := hown9.shape
  have HOWN9 := Lib.hid hown9
  have HPOST9 := Lib.hid hpost9
  clear hown9 hpost9
  go_wp2_with fail
  go_ret
  rw [← HR.out, show p.item x = p.put (p.c.fail 2) by unfold Pk.item; rw [if_pos (Or.inl HDD.out)]]
  exact PkGives.trans (K1.out.mono (by simp)) (fun i hi => Or.inl hi) ⟨_, rfl, HOWN9.out, HPOST9.out⟩

set_option maxHeartbeats 1600000 in
set_option maxRecDepth 100000 in
theorem item_193 {N : Int} {w : World} {base b : Nat} {ov sv : Value} {p : Pk} (h : PkOk N w base b ov sv p) (x : Int) (hx0 : 0 ≤ x) (hx1 : x ≤ 255) (hd : p.c.done = false) (hx : x = 193) :
    Calls Try.prog 31 #[.pointer (some ⟨b, 0, none⟩), .int .u8 x] w (PkGives w base b ov sv (p.item x)) := by
  have hbl := h.in_.blk.lt
  have H := Lib.hid h
  have HD := Lib.hid (fun W (k : Keeps [] w W) => coreDone_any p.c W base b _ _ ov sv (h.core.keep0 k).in_)
  have HA := Lib.hid (atKey_any p.c w base b _ _ ov sv h.core.in_ h.core.opens (fun c hc => by have := h.core.parts c hc; have := h.core.big; omega))
  have HFU := Lib.hid (coreFull_any p.c w base b _ _ ov sv h.core.in_)
  have HFA := Lib.hid (fun e W (k : Keeps [] w W) => fail_gives e p.c W base b _ _ ov sv (h.core.keep0 k).in_)
  have HT := Lib.hid (isText_any x hx0 hx1)
  have HC := Lib.hid (isCont_any x hx0 hx1)
  clear h
  obtain ⟨res, hres⟩ : ∃ res, p.item x = res := ⟨_, rfl⟩
  rw [hres]
  have HR := Lib.hid hres
  clear hres
  have K1 := Lib.hid (Keeps.refl [] w)
  subst hx
  go_enter Try.func31, Try.ntmps31
  go_wp2_with fail
  refine (HD.out w (Keeps.refl _ _)).mono ?_
  rintro e w' ⟨rfl, rfl⟩
  rw [hd]
  clear hd
  go_wp2_with fail
  refine (HFA.out 2 w (Keeps.refl _ _)).mono ?_
  rintro e w9 hg9
  have hg9 := CoreGives.pk hg9
  obtain ⟨v9, rfl, hown9, hpost9⟩ := hg9
  obtain ⟨av9, cv9, rfl⟩ := hown9.shape
  have HOWN9 := Lib.hid hown9
  have HPOST9 := Lib.hid hpost9
  clear hown9 hpost9
  go_wp2_with fail
  go_ret
  rw [← HR.out, show p.item 193 = p.put (p.c.fail 2) by unfold Pk.item; rw [if_pos (Or.inr rfl)]]
  exact PkGives.trans (K1.out.mono (by simp)) (fun i hi => Or.inl hi) ⟨_, rfl, HOWN9.out, HPOST9.out⟩

set_option maxHeartbeats 1600000 in
set_option maxRecDepth 100000 in
theorem item_key {N : Int} {w : World} {base b : Nat} {ov sv : Value} {p : Pk} (h : PkOk N w base b ov sv p) (x : Int) (hx0 : 0 ≤ x) (hx1 : x ≤ 255) (hd : p.c.done = false) (hx : ¬ x = 193) (hk : p.c.atKey = true) (ht : isTextB x = false) :
    Calls Try.prog 31 #[.pointer (some ⟨b, 0, none⟩), .int .u8 x] w (PkGives w base b ov sv (p.item x)) := by
  have hbl := h.in_.blk.lt
  have H := Lib.hid h
  have HD := Lib.hid (fun W (k : Keeps [] w W) => coreDone_any p.c W base b _ _ ov sv (h.core.keep0 k).in_)
  have HA := Lib.hid (atKey_any p.c w base b _ _ ov sv h.core.in_ h.core.opens (fun c hc => by have := h.core.parts c hc; have := h.core.big; omega))
  have HFU := Lib.hid (coreFull_any p.c w base b _ _ ov sv h.core.in_)
  have HFA := Lib.hid (fun e W (k : Keeps [] w W) => fail_gives e p.c W base b _ _ ov sv (h.core.keep0 k).in_)
  have HT := Lib.hid (isText_any x hx0 hx1)
  have HC := Lib.hid (isCont_any x hx0 hx1)
  clear h
  obtain ⟨res, hres⟩ : ∃ res, p.item x = res := ⟨_, rfl⟩
  rw [hres]
  have HR := Lib.hid hres
  clear hres
  have K1 := Lib.hid (Keeps.refl [] w)
  have HX := Lib.hid hx
  have hxb : (x == 193) = false := by simpa using hx
  clear hx
  go_enter Try.func31, Try.ntmps31
  go_wp2_with fail
  refine (HD.out w (Keeps.refl _ _)).mono ?_
  rintro e w' ⟨rfl, rfl⟩
  rw [hd]
  have HDD := Lib.hid hd
  clear hd
  go_wp2_with fail
  refine HA.out.mono ?_
  rintro e w' ⟨rfl, rfl⟩
  rw [hk]
  have HKK := Lib.hid hk
  have HTT := Lib.hid ht
  go_wp2_with fail
  refine (HT.out w).mono ?_
  rintro e w' ⟨rfl, rfl⟩
  rw [ht]
  clear hk ht
  go_wp2_with fail
  refine (HFA.out 8 w (Keeps.refl _ _)).mono ?_
  rintro e w9 hg9
  have hg9 := CoreGives.pk hg9
  obtain ⟨v9, rfl, hown9, hpost9⟩ := hg9
  obtain ⟨av9, cv9, rfl⟩ := hown9.shape
  have HOWN9 := Lib.hid hown9
  have HPOST9 := Lib.hid hpost9
  clear hown9 hpost9
  go_wp2_with fail
  go_ret
  rw [← HR.out, show p.item x = p.put (p.c.fail 8) by unfold Pk.item; rw [if_neg (show ¬ (p.c.done = true ∨ x = 193) by rw [HDD.out]; simp; exact HX.out), if_pos ⟨HKK.out, HTT.out⟩]]
  exact PkGives.trans (K1.out.mono (by simp)) (fun i hi => Or.inl hi) ⟨_, rfl, HOWN9.out, HPOST9.out⟩

set_option maxHeartbeats 1600000 in
set_option maxRecDepth 100000 in
theorem item_ext1 {N : Int} {w : World} {base b : Nat} {ov sv : Value} {p : Pk} (h : PkOk N w base b ov sv p) (x : Int) (hx0 : 0 ≤ x) (hx1 : x ≤ 255) (hd : p.c.done = false) (hx : ¬ x = 193) (h2 : ¬ (p.c.atKey = true ∧ isTextB x = false)) (h3 : 199 ≤ x ∧ x ≤ 201) :
    Calls Try.prog 31 #[.pointer (some ⟨b, 0, none⟩), .int .u8 x] w (PkGives w base b ov sv (p.item x)) := by
  have hbl := h.in_.blk.lt
  have H := Lib.hid h
  have HD := Lib.hid (fun W (k : Keeps [] w W) => coreDone_any p.c W base b _ _ ov sv (h.core.keep0 k).in_)
  have HA := Lib.hid (atKey_any p.c w base b _ _ ov sv h.core.in_ h.core.opens (fun c hc => by have := h.core.parts c hc; have := h.core.big; omega))
  have HFU := Lib.hid (coreFull_any p.c w base b _ _ ov sv h.core.in_)
  have HFA := Lib.hid (fun e W (k : Keeps [] w W) => fail_gives e p.c W base b _ _ ov sv (h.core.keep0 k).in_)
  have HT := Lib.hid (isText_any x hx0 hx1)
  have HC := Lib.hid (isCont_any x hx0 hx1)
  clear h
  obtain ⟨res, hres⟩ : ∃ res, p.item x = res := ⟨_, rfl⟩
  rw [hres]
  have HR := Lib.hid hres
  clear hres
  have K1 := Lib.hid (Keeps.refl [] w)
  have HX := Lib.hid hx
  have hxb : (x == 193) = false := by simpa using hx
  have HK2 := Lib.hid h2
  clear hx
  have H3 := Lib.hid h3
  obtain ⟨h31, h32⟩ := h3
  rcases (show p.c.atKey = false ∨ p.c.atKey = true ∧ isTextB x = true by
    cases hk : p.c.atKey <;> cases ht : isTextB x <;> simp_all) with hk | ⟨hk, ht⟩
  · clear h2
    go_enter Try.func31, Try.ntmps31
    go_wp2_with fail
    refine (HD.out w (Keeps.refl _ _)).mono ?_
    rintro e w' ⟨rfl, rfl⟩
    rw [hd]
    have HDD := Lib.hid hd
    clear hd
    go_wp2_with fail
    refine HA.out.mono ?_
    rintro e w' ⟨rfl, rfl⟩
    rw [hk]
    clear hk
    go_wp2_with fail
    refine (HFA.out 8 w (Keeps.refl _ _)).mono ?_
    rintro e w9 hg9
    have hg9 := CoreGives.pk hg9
    obtain ⟨v9, rfl, hown9, hpost9⟩ := hg9
    obtain ⟨av9, cv9, rfl⟩ := hown9.shape
    have HOWN9 := Lib.hid hown9
    have HPOST9 := Lib.hid hpost9
    clear hown9 hpost9
    go_wp2_with fail
    go_ret
    rw [← HR.out, show p.item x = p.put (p.c.fail 8) by unfold Pk.item; rw [if_neg (show ¬ (p.c.done = true ∨ x = 193) by rw [HDD.out]; simp; exact HX.out), if_neg HK2.out, if_pos (Or.inl H3.out)]]
    exact PkGives.trans (K1.out.mono (by simp)) (fun i hi => Or.inl hi) ⟨_, rfl, HOWN9.out, HPOST9.out⟩
  · clear h2
    go_enter Try.func31, Try.ntmps31
    go_wp2_with fail
    refine (HD.out w (Keeps.refl _ _)).mono ?_
    rintro e w' ⟨rfl, rfl⟩
    rw [hd]
    have HDD := Lib.hid hd
    clear hd
    go_wp2_with fail
    refine HA.out.mono ?_
    rintro e w' ⟨rfl, rfl⟩
    rw [hk]
    clear hk
    go_wp2_with fail
    refine (HT.out w).mono ?_
    rintro e w' ⟨rfl, rfl⟩
    rw [ht]
    clear ht
    go_wp2_with fail
    refine (HFA.out 8 w (Keeps.refl _ _)).mono ?_
    rintro e w9 hg9
    have hg9 := CoreGives.pk hg9
    obtain ⟨v9, rfl, hown9, hpost9⟩ := hg9
    obtain ⟨av9, cv9, rfl⟩ := hown9.shape
    have HOWN9 := Lib.hid hown9
    have HPOST9 := Lib.hid hpost9
    clear hown9 hpost9
    go_wp2_with fail
    go_ret
    rw [← HR.out, show p.item x = p.put (p.c.fail 8) by unfold Pk.item; rw [if_neg (show ¬ (p.c.done = true ∨ x = 193) by rw [HDD.out]; simp; exact HX.out), if_neg HK2.out, if_pos (Or.inl H3.out)]]
    exact PkGives.trans (K1.out.mono (by simp)) (fun i hi => Or.inl hi) ⟨_, rfl, HOWN9.out, HPOST9.out⟩

set_option maxHeartbeats 1600000 in
set_option maxRecDepth 100000 in
theorem item_ext2 {N : Int} {w : World} {base b : Nat} {ov sv : Value} {p : Pk} (h : PkOk N w base b ov sv p) (x : Int) (hx0 : 0 ≤ x) (hx1 : x ≤ 255) (hd : p.c.done = false) (hx : ¬ x = 193) (h2 : ¬ (p.c.atKey = true ∧ isTextB x = false)) (h3 : 212 ≤ x ∧ x ≤ 216) :
    Calls Try.prog 31 #[.pointer (some ⟨b, 0, none⟩), .int .u8 x] w (PkGives w base b ov sv (p.item x)) := by
  have hbl := h.in_.blk.lt
  have H := Lib.hid h
  have HD := Lib.hid (fun W (k : Keeps [] w W) => coreDone_any p.c W base b _ _ ov sv (h.core.keep0 k).in_)
  have HA := Lib.hid (atKey_any p.c w base b _ _ ov sv h.core.in_ h.core.opens (fun c hc => by have := h.core.parts c hc; have := h.core.big; omega))
  have HFU := Lib.hid (coreFull_any p.c w base b _ _ ov sv h.core.in_)
  have HFA := Lib.hid (fun e W (k : Keeps [] w W) => fail_gives e p.c W base b _ _ ov sv (h.core.keep0 k).in_)
  have HT := Lib.hid (isText_any x hx0 hx1)
  have HC := Lib.hid (isCont_any x hx0 hx1)
  clear h
  obtain ⟨res, hres⟩ : ∃ res, p.item x = res := ⟨_, rfl⟩
  rw [hres]
  have HR := Lib.hid hres
  clear hres
  have K1 := Lib.hid (Keeps.refl [] w)
  have HX := Lib.hid hx
  have hxb : (x == 193) = false := by simpa using hx
  have HK2 := Lib.hid h2
  clear hx
  have H3 := Lib.hid h3
  obtain ⟨h31, h32⟩ := h3
  have h33 : ¬ x ≤ 201 := by omega
  rcases (show p.c.atKey = false ∨ p.c.atKey = true ∧ isTextB x = true by
    cases hk : p.c.atKey <;> cases ht : isTextB x <;> simp_all) with hk | ⟨hk, ht⟩
  · clear h2
    go_enter Try.func31, Try.ntmps31
    go_wp2_with fail
    refine (HD.out w (Keeps.refl _ _)).mono ?_
    rintro e w' ⟨rfl, rfl⟩
    rw [hd]
    have HDD := Lib.hid hd
    clear hd
    go_wp2_with fail
    refine HA.out.mono ?_
    rintro e w' ⟨rfl, rfl⟩
    rw [hk]
    clear hk
    go_wp2_with fail
    refine (HFA.out 8 w (Keeps.refl _ _)).mono ?_
    rintro e w9 hg9
    have hg9 := CoreGives.pk hg9
    obtain ⟨v9, rfl, hown9, hpost9⟩ := hg9
    obtain ⟨av9, cv9, rfl⟩ := hown9.shape
    have HOWN9 := Lib.hid hown9
    have HPOST9 := Lib.hid hpost9
    clear hown9 hpost9
    go_wp2_with fail
    go_ret
    rw [← HR.out, show p.item x = p.put (p.c.fail 8) by unfold Pk.item; rw [if_neg (show ¬ (p.c.done = true ∨ x = 193) by rw [HDD.out]; simp; exact HX.out), if_neg HK2.out, if_pos (Or.inr H3.out)]]
    exact PkGives.trans (K1.out.mono (by simp)) (fun i hi => Or.inl hi) ⟨_, rfl, HOWN9.out, HPOST9.out⟩
  · clear h2
    go_enter Try.func31, Try.ntmps31
    go_wp2_with fail
    refine (HD.out w (Keeps.refl _ _)).mono ?_
    rintro e w' ⟨rfl, rfl⟩
    rw [hd]
    have HDD := Lib.hid hd
    clear hd
    go_wp2_with fail
    refine HA.out.mono ?_
    rintro e w' ⟨rfl, rfl⟩
    rw [hk]
    clear hk
    go_wp2_with fail
    refine (HT.out w).mono ?_
    rintro e w' ⟨rfl, rfl⟩
    rw [ht]
    clear ht
    go_wp2_with fail
    refine (HFA.out 8 w (Keeps.refl _ _)).mono ?_
    rintro e w9 hg9
    have hg9 := CoreGives.pk hg9
    obtain ⟨v9, rfl, hown9, hpost9⟩ := hg9
    obtain ⟨av9, cv9, rfl⟩ := hown9.shape
    have HOWN9 := Lib.hid hown9
    have HPOST9 := Lib.hid hpost9
    clear hown9 hpost9
    go_wp2_with fail
    go_ret
    rw [← HR.out, show p.item x = p.put (p.c.fail 8) by unfold Pk.item; rw [if_neg (show ¬ (p.c.done = true ∨ x = 193) by rw [HDD.out]; simp; exact HX.out), if_neg HK2.out, if_pos (Or.inr H3.out)]]
    exact PkGives.trans (K1.out.mono (by simp)) (fun i hi => Or.inl hi) ⟨_, rfl, HOWN9.out, HPOST9.out⟩

set_option maxHeartbeats 1600000 in
set_option maxRecDepth 100000 in
theorem item_float202 {N : Int} {w : World} {base b : Nat} {ov sv : Value} {p : Pk} (h : PkOk N w base b ov sv p) (x : Int) (hx0 : 0 ≤ x) (hx1 : x ≤ 255) (hd : p.c.done = false) (hx : ¬ x = 193) (h2 : ¬ (p.c.atKey = true ∧ isTextB x = false)) (h3 : x = 202) :
    Calls Try.prog 31 #[.pointer (some ⟨b, 0, none⟩), .int .u8 x] w (PkGives w base b ov sv (p.item x)) := by
  have hbl := h.in_.blk.lt
  have H := Lib.hid h
  have HD := Lib.hid (fun W (k : Keeps [] w W) => coreDone_any p.c W base b _ _ ov sv (h.core.keep0 k).in_)
  have HA := Lib.hid (atKey_any p.c w base b _ _ ov sv h.core.in_ h.core.opens (fun c hc => by have := h.core.parts c hc; have := h.core.big; omega))
  have HFU := Lib.hid (coreFull_any p.c w base b _ _ ov sv h.core.in_)
  have HFA := Lib.hid (fun e W (k : Keeps [] w W) => fail_gives e p.c W base b _ _ ov sv (h.core.keep0 k).in_)
  have HT := Lib.hid (isText_any x hx0 hx1)
  have HC := Lib.hid (isCont_any x hx0 hx1)
  clear h
  obtain ⟨res, hres⟩ : ∃ res, p.item x = res := ⟨_, rfl⟩
  rw [hres]
  have HR := Lib.hid hres
  clear hres
  have K1 := Lib.hid (Keeps.refl [] w)
  have HX := Lib.hid hx
  have hxb : (x == 193) = false := by simpa using hx
  have HK2 := Lib.hid h2
  clear hx
  have HM := Lib.hid (show p.item x = p.put (p.c.fail 6) by
    unfold Pk.item
    rw [if_neg (show ¬ (p.c.done = true ∨ x = 193) by rw [hd]; simp; exact HX.out), if_neg h2, if_neg (by omega), if_pos (by omega)])
  subst h3
  rcases (show p.c.atKey = false ∨ p.c.atKey = true ∧ isTextB (202 : Int) = true by
    cases hk : p.c.atKey <;> cases ht : isTextB (202 : Int) <;> simp_all) with hk | ⟨hk, ht⟩
  · clear h2
    go_enter Try.func31, Try.ntmps31
    go_wp2_with fail
    refine (HD.out w (Keeps.refl _ _)).mono ?_
    rintro e w' ⟨rfl, rfl⟩
    rw [hd]
    have HDD := Lib.hid hd
    clear hd
    go_wp2_with fail
    refine HA.out.mono ?_
    rintro e w' ⟨rfl, rfl⟩
    rw [hk]
    clear hk
    go_wp2_with fail
    refine (HFA.out 6 w (Keeps.refl _ _)).mono ?_
    rintro e w9 hg9
    have hg9 := CoreGives.pk hg9
    obtain ⟨v9, rfl, hown9, hpost9⟩ := hg9
    obtain ⟨av9, cv9, rfl⟩ := hown9.shape
    have HOWN9 := Lib.hid hown9
    have HPOST9 := Lib.hid hpost9
    clear hown9 hpost9
    go_wp2_with fail
    go_ret
    rw [← HR.out, HM.out]
    exact PkGives.trans (K1.out.mono (by simp)) (fun i hi => Or.inl hi) ⟨_, rfl, HOWN9.out, HPOST9.out⟩
  · clear h2
    go_enter Try.func31, Try.ntmps31
    go_wp2_with fail
    refine (HD.out w (Keeps.refl _ _)).mono ?_
    rintro e w' ⟨rfl, rfl⟩
    rw [hd]
    have HDD := Lib.hid hd
    clear hd
    go_wp2_with fail
    refine HA.out.mono ?_
    rintro e w' ⟨rfl, rfl⟩
    rw [hk]
    clear hk
    go_wp2_with fail
    refine (HT.out w).mono ?_
    rintro e w' ⟨rfl, rfl⟩
    rw [ht]
    clear ht
    go_wp2_with fail
    refine (HFA.out 6 w (Keeps.refl _ _)).mono ?_
    rintro e w9 hg9
    have hg9 := CoreGives.pk hg9
    obtain ⟨v9, rfl, hown9, hpost9⟩ := hg9
    obtain ⟨av9, cv9, rfl⟩ := hown9.shape
    have HOWN9 := Lib.hid hown9
    have HPOST9 := Lib.hid hpost9
    clear hown9 hpost9
    go_wp2_with fail
    go_ret
    rw [← HR.out, HM.out]
    exact PkGives.trans (K1.out.mono (by simp)) (fun i hi => Or.inl hi) ⟨_, rfl, HOWN9.out, HPOST9.out⟩

set_option maxHeartbeats 1600000 in
set_option maxRecDepth 100000 in
theorem item_float203 {N : Int} {w : World} {base b : Nat} {ov sv : Value} {p : Pk} (h : PkOk N w base b ov sv p) (x : Int) (hx0 : 0 ≤ x) (hx1 : x ≤ 255) (hd : p.c.done = false) (hx : ¬ x = 193) (h2 : ¬ (p.c.atKey = true ∧ isTextB x = false)) (h3 : x = 203) :
    Calls Try.prog 31 #[.pointer (some ⟨b, 0, none⟩), .int .u8 x] w (PkGives w base b ov sv (p.item x)) := by
  have hbl := h.in_.blk.lt
  have H := Lib.hid h
  have HD := Lib.hid (fun W (k : Keeps [] w W) => coreDone_any p.c W base b _ _ ov sv (h.core.keep0 k).in_)
  have HA := Lib.hid (atKey_any p.c w base b _ _ ov sv h.core.in_ h.core.opens (fun c hc => by have := h.core.parts c hc; have := h.core.big; omega))
  have HFU := Lib.hid (coreFull_any p.c w base b _ _ ov sv h.core.in_)
  have HFA := Lib.hid (fun e W (k : Keeps [] w W) => fail_gives e p.c W base b _ _ ov sv (h.core.keep0 k).in_)
  have HT := Lib.hid (isText_any x hx0 hx1)
  have HC := Lib.hid (isCont_any x hx0 hx1)
  clear h
  obtain ⟨res, hres⟩ : ∃ res, p.item x = res := ⟨_, rfl⟩
  rw [hres]
  have HR := Lib.hid hres
  clear hres
  have K1 := Lib.hid (Keeps.refl [] w)
  have HX := Lib.hid hx
  have hxb : (x == 193) = false := by simpa using hx
  have HK2 := Lib.hid h2
  clear hx
  have HM := Lib.hid (show p.item x = p.put (p.c.fail 6) by
    unfold Pk.item
    rw [if_neg (show ¬ (p.c.done = true ∨ x = 193) by rw [hd]; simp; exact HX.out), if_neg h2, if_neg (by omega), if_pos (by omega)])
  subst h3
  rcases (show p.c.atKey = false ∨ p.c.atKey = true ∧ isTextB (203 : Int) = true by
    cases hk : p.c.atKey <;> cases ht : isTextB (203 : Int) <;> simp_all) with hk | ⟨hk, ht⟩
  · clear h2
    go_enter Try.func31, Try.ntmps31
    go_wp2_with fail
    refine (HD.out w (Keeps.refl _ _)).mono ?_
    rintro e w' ⟨rfl, rfl⟩
    rw [hd]
    have HDD := Lib.hid hd
    clear hd
    go_wp2_with fail
    refine HA.out.mono ?_
    rintro e w' ⟨rfl, rfl⟩
    rw [hk]
    clear hk
    go_wp2_with fail
    refine (HFA.out 6 w (Keeps.refl _ _)).mono ?_
    rintro e w9 hg9
    have hg9 := CoreGives.pk hg9
    obtain ⟨v9, rfl, hown9, hpost9⟩ := hg9
    obtain ⟨av9, cv9, rfl⟩ := hown9.shape
    have HOWN9 := Lib.hid hown9
    have HPOST9 := Lib.hid hpost9
    clear hown9 hpost9
    go_wp2_with fail
    go_ret
    rw [← HR.out, HM.out]
    exact PkGives.trans (K1.out.mono (by simp)) (fun i hi => Or.inl hi) ⟨_, rfl, HOWN9.out, HPOST9.out⟩
  · clear h2
    go_enter Try.func31, Try.ntmps31
    go_wp2_with fail
    refine (HD.out w (Keeps.refl _ _)).mono ?_
    rintro e w' ⟨rfl, rfl⟩
    rw [hd]
    have HDD := Lib.hid hd
    clear hd
    go_wp2_with fail
    refine HA.out.mono ?_
    rintro e w' ⟨rfl, rfl⟩
    rw [hk]
    clear hk
    go_wp2_with fail
    refine (HT.out w).mono ?_
    rintro e w' ⟨rfl, rfl⟩
    rw [ht]
    clear ht
    go_wp2_with fail
    refine (HFA.out 6 w (Keeps.refl _ _)).mono ?_
    rintro e w9 hg9
    have hg9 := CoreGives.pk hg9
    obtain ⟨v9, rfl, hown9, hpost9⟩ := hg9
    obtain ⟨av9, cv9, rfl⟩ := hown9.shape
    have HOWN9 := Lib.hid hown9
    have HPOST9 := Lib.hid hpost9
    clear hown9 hpost9
    go_wp2_with fail
    go_ret
    rw [← HR.out, HM.out]
    exact PkGives.trans (K1.out.mono (by simp)) (fun i hi => Or.inl hi) ⟨_, rfl, HOWN9.out, HPOST9.out⟩

set_option maxHeartbeats 1600000 in
set_option maxRecDepth 100000 in
theorem item_full_a {N : Int} {w : World} {base b : Nat} {ov sv : Value} {p : Pk} (h : PkOk N w base b ov sv p) (x : Int) (hx0 : 0 ≤ x) (hx1 : x ≤ 255) (hd : p.c.done = false) (hx : ¬ x = 193) (h2 : ¬ (p.c.atKey = true ∧ isTextB x = false)) (h3 : ¬ (199 ≤ x ∧ x ≤ 201 ∨ 212 ≤ x ∧ x ≤ 216)) (h4 : ¬ (x = 202 ∨ x = 203)) (hcb : isContB x = true) (hfu : p.c.full = true) (h5 : x ≤ 159) :
    Calls Try.prog 31 #[.pointer (some ⟨b, 0, none⟩), .int .u8 x] w (PkGives w base b ov sv (p.item x)) := by
  have hbl := h.in_.blk.lt
  have H := Lib.hid h
  have HD := Lib.hid (fun W (k : Keeps [] w W) => coreDone_any p.c W base b _ _ ov sv (h.core.keep0 k).in_)
  have HA := Lib.hid (atKey_any p.c w base b _ _ ov sv h.core.in_ h.core.opens (fun c hc => by have := h.core.parts c hc; have := h.core.big; omega))
  have HFU := Lib.hid (coreFull_any p.c w base b _ _ ov sv h.core.in_)
  have HFA := Lib.hid (fun e W (k : Keeps [] w W) => fail_gives e p.c W base b _ _ ov sv (h.core.keep0 k).in_)
  have HT := Lib.hid (isText_any x hx0 hx1)
  have HC := Lib.hid (isCont_any x hx0 hx1)
  clear h
  obtain ⟨res, hres⟩ : ∃ res, p.item x = res := ⟨_, rfl⟩
  rw [hres]
  have HR := Lib.hid hres
  clear hres
  have K1 := Lib.hid (Keeps.refl [] w)
  have HX := Lib.hid hx
  have hxb : (x == 193) = false := by simpa using hx
  have HK2 := Lib.hid h2
  clear hx
  have hy1 : (x == 202) = false := by simp; omega
  have hy2 : (x == 203) = false := by simp; omega
  have hw1 : ¬ 199 ≤ x := by omega
  have hw2 : ¬ 212 ≤ x := by omega
  have HM := Lib.hid (show p.item x = p.put (p.c.fail 4) by
    unfold Pk.item
    rw [if_neg (show ¬ (p.c.done = true ∨ x = 193) by rw [hd]; simp; exact HX.out), if_neg h2, if_neg h3, if_neg h4, if_pos ⟨hcb, hfu⟩])
  rcases (show p.c.atKey = false ∨ p.c.atKey = true ∧ isTextB x = true by
    cases hk : p.c.atKey <;> cases ht : isTextB x <;> simp_all) with hk | ⟨hk, ht⟩
  · clear h2
    go_enter Try.func31, Try.ntmps31
    go_wp2_with fail
    refine (HD.out w (Keeps.refl _ _)).mono ?_
    rintro e w' ⟨rfl, rfl⟩
    rw [hd]
    have HDD := Lib.hid hd
    clear hd
    go_wp2_with fail
    refine HA.out.mono ?_
    rintro e w' ⟨rfl, rfl⟩
    rw [hk]
    clear hk
    go_wp2_with fail
    go_wp2_with fail
    refine (HC.out w).mono ?_
    rintro e w' ⟨rfl, rfl⟩
    rw [hcb]
    go_wp2_with fail
    refine HFU.out.mono ?_
    rintro e w1 ⟨rfl, k1⟩
    have K1 := Lib.hid k1
    rw [hfu]
    clear k1
    go_wp2_with fail
    refine (HFA.out 4 w1 K1.out).mono ?_
    rintro e w9 hg9
    have hg9 := CoreGives.pk hg9
    obtain ⟨v9, rfl, hown9, hpost9⟩ := hg9
    obtain ⟨av9, cv9, rfl⟩ := hown9.shape
    have HOWN9 := Lib.hid hown9
    have HPOST9 := Lib.hid hpost9
    clear hown9 hpost9
    go_wp2_with fail
    go_ret
    rw [← HR.out, HM.out]
    exact PkGives.trans (K1.out.mono (by simp)) (fun i hi => Or.inl hi) ⟨_, rfl, HOWN9.out, HPOST9.out⟩
  · clear h2
    go_enter Try.func31, Try.ntmps31
    go_wp2_with fail
    refine (HD.out w (Keeps.refl _ _)).mono ?_
    rintro e w' ⟨rfl, rfl⟩
    rw [hd]
    have HDD := Lib.hid hd
    clear hd
    go_wp2_with fail
    refine HA.out.mono ?_
    rintro e w' ⟨rfl, rfl⟩
    rw [hk]
    clear hk
    go_wp2_with fail
    refine (HT.out w).mono ?_
    rintro e w' ⟨rfl, rfl⟩
    rw [ht]
    clear ht
    go_wp2_with fail
    go_wp2_with fail
    refine (HC.out w).mono ?_
    rintro e w' ⟨rfl, rfl⟩
    rw [hcb]
    go_wp2_with fail
    refine HFU.out.mono ?_
    rintro e w1 ⟨rfl, k1⟩
    have K1 := Lib.hid k1
    rw [hfu]
    clear k1
    go_wp2_with fail
    refine (HFA.out 4 w1 K1.out).mono ?_
    rintro e w9 hg9
    have hg9 := CoreGives.pk hg9
    obtain ⟨v9, rfl, hown9, hpost9⟩ := hg9
    obtain ⟨av9, cv9, rfl⟩ := hown9.shape
    have HOWN9 := Lib.hid hown9
    have HPOST9 := Lib.hid hpost9
    clear hown9 hpost9
    go_wp2_with fail
    go_ret
    rw [← HR.out, HM.out]
    exact PkGives.trans (K1.out.mono (by simp)) (fun i hi => Or.inl hi) ⟨_, rfl, HOWN9.out, HPOST9.out⟩

set_option maxHeartbeats 1600000 in
set_option maxRecDepth 100000 in
theorem item_full_b {N : Int} {w : World} {base b : Nat} {ov sv : Value} {p : Pk} (h : PkOk N w base b ov sv p) (x : Int) (hx0 : 0 ≤ x) (hx1 : x ≤ 255) (hd : p.c.done = false) (hx : ¬ x = 193) (h2 : ¬ (p.c.atKey = true ∧ isTextB x = false)) (h3 : ¬ (199 ≤ x ∧ x ≤ 201 ∨ 212 ≤ x ∧ x ≤ 216)) (h4 : ¬ (x = 202 ∨ x = 203)) (hcb : isContB x = true) (hfu : p.c.full = true) (h5 : 220 ≤ x) :
    Calls Try.prog 31 #[.pointer (some ⟨b, 0, none⟩), .int .u8 x] w (PkGives w base b ov sv (p.item x)) := by
  have hbl := h.in_.blk.lt
  have H := Lib.hid h
  have HD := Lib.hid (fun W (k : Keeps [] w W) => coreDone_any p.c W base b _ _ ov sv (h.core.keep0 k).in_)
  have HA := Lib.hid (atKey_any p.c w base b _ _ ov sv h.core.in_ h.core.opens (fun c hc => by have := h.core.parts c hc; have := h.core.big; omega))
  have HFU := Lib.hid (coreFull_any p.c w base b _ _ ov sv h.core.in_)
  have HFA := Lib.hid (fun e W (k : Keeps [] w W) => fail_gives e p.c W base b _ _ ov sv (h.core.keep0 k).in_)
  have HT := Lib.hid (isText_any x hx0 hx1)
  have HC := Lib.hid (isCont_any x hx0 hx1)
  clear h
  obtain ⟨res, hres⟩ : ∃ res, p.item x = res := ⟨_, rfl⟩
  rw [hres]
  have HR := Lib.hid hres
  clear hres
  have K1 := Lib.hid (Keeps.refl [] w)
  have HX := Lib.hid hx
  have hxb : (x == 193) = false := by simpa using hx
  have HK2 := Lib.hid h2
  clear hx
  have hy1 : (x == 202) = false := by simp; omega
  have hy2 : (x == 203) = false := by simp; omega
  have hw1 : 199 ≤ x := by omega
  have hw2 : ¬ x ≤ 201 := by omega
  have hw3 : 212 ≤ x := by omega
  have hw4 : ¬ x ≤ 216 := by omega
  have HM := Lib.hid (show p.item x = p.put (p.c.fail 4) by
    unfold Pk.item
    rw [if_neg (show ¬ (p.c.done = true ∨ x = 193) by rw [hd]; simp; exact HX.out), if_neg h2, if_neg h3, if_neg h4, if_pos ⟨hcb, hfu⟩])
  rcases (show p.c.atKey = false ∨ p.c.atKey = true ∧ isTextB x = true by
    cases hk : p.c.atKey <;> cases ht : isTextB x <;> simp_all) with hk | ⟨hk, ht⟩
  · clear h2
    go_enter Try.func31, Try.ntmps31
    go_wp2_with fail
    refine (HD.out w (Keeps.refl _ _)).mono ?_
    rintro e w' ⟨rfl, rfl⟩
    rw [hd]
    have HDD := Lib.hid hd
    clear hd
    go_wp2_with fail
    refine HA.out.mono ?_
    rintro e w' ⟨rfl, rfl⟩
    rw [hk]
    clear hk
    go_wp2_with fail
    go_wp2_with fail
    refine (HC.out w).mono ?_
    rintro e w' ⟨rfl, rfl⟩
    rw [hcb]
    go_wp2_with fail
    refine HFU.out.mono ?_
    rintro e w1 ⟨rfl, k1⟩
    have K1 := Lib.hid k1
    rw [hfu]
    clear k1
    go_wp2_with fail
    refine (HFA.out 4 w1 K1.out).mono ?_
    rintro e w9 hg9
    have hg9 := CoreGives.pk hg9
    obtain ⟨v9, rfl, hown9, hpost9⟩ := hg9
    obtain ⟨av9, cv9, rfl⟩ := hown9.shape
    have HOWN9 := Lib.hid hown9
    have HPOST9 := Lib.hid hpost9
    clear hown9 hpost9
    go_wp2_with fail
    go_ret
    rw [← HR.out, HM.out]
    exact PkGives.trans (K1.out.mono (by simp)) (fun i hi => Or.inl hi) ⟨_, rfl, HOWN9.out, HPOST9.out⟩
  · clear h2
    go_enter Try.func31, Try.ntmps31
    go_wp2_with fail
    refine (HD.out w (Keeps.refl _ _)).mono ?_
    rintro e w' ⟨rfl, rfl⟩
    rw [hd]
    have HDD := Lib.hid hd
    clear hd
    go_wp2_with fail
    refine HA.out.mono ?_
    rintro e w' ⟨rfl, rfl⟩
    rw [hk]
    clear hk
    go_wp2_with fail
    refine (HT.out w).mono ?_
    rintro e w' ⟨rfl, rfl⟩
    rw [ht]
    clear ht
    go_wp2_with fail
    go_wp2_with fail
    refine (HC.out w).mono ?_
    rintro e w' ⟨rfl, rfl⟩
    rw [hcb]
    go_wp2_with fail
    refine HFU.out.mono ?_
    rintro e w1 ⟨rfl, k1⟩
    have K1 := Lib.hid k1
    rw [hfu]
    clear k1
    go_wp2_with fail
    refine (HFA.out 4 w1 K1.out).mono ?_
    rintro e w9 hg9
    have hg9 := CoreGives.pk hg9
    obtain ⟨v9, rfl, hown9, hpost9⟩ := hg9
    obtain ⟨av9, cv9, rfl⟩ := hown9.shape
    have HOWN9 := Lib.hid hown9
    have HPOST9 := Lib.hid hpost9
    clear hown9 hpost9
    go_wp2_with fail
    go_ret
    rw [← HR.out, HM.out]
    exact PkGives.trans (K1.out.mono (by simp)) (fun i hi => Or.inl hi) ⟨_, rfl, HOWN9.out, HPOST9.out⟩

set_option maxHeartbeats 1600000 in
set_option maxRecDepth 100000 in
theorem item_pos {N : Int} {w : World} {base b : Nat} {ov sv : Value} {p : Pk} (h : PkOk N w base b ov sv p) (x : Int) (hx0 : 0 ≤ x) (hx1 : x ≤ 255) (hd : p.c.done = false) (hx : ¬ x = 193) (h2 : ¬ (p.c.atKey = true ∧ isTextB x = false)) (h3 : ¬ (199 ≤ x ∧ x ≤ 201 ∨ 212 ≤ x ∧ x ≤ 216)) (h4 : ¬ (x = 202 ∨ x = 203)) (hcb : isContB x = false) (h5 : x < 128) :
    Calls Try.prog 31 #[.pointer (some ⟨b, 0, none⟩), .int .u8 x] w (PkGives w base b ov sv (p.item x)) := by
  have hbl := h.in_.blk.lt
  have H := Lib.hid h
  have HD := Lib.hid (fun W (k : Keeps [] w W) => coreDone_any p.c W base b _ _ ov sv (h.core.keep0 k).in_)
  have HA := Lib.hid (atKey_any p.c w base b _ _ ov sv h.core.in_ h.core.opens (fun c hc => by have := h.core.parts c hc; have := h.core.big; omega))
  have HFU := Lib.hid (coreFull_any p.c w base b _ _ ov sv h.core.in_)
  have HFA := Lib.hid (fun e W (k : Keeps [] w W) => fail_gives e p.c W base b _ _ ov sv (h.core.keep0 k).in_)
  have HT := Lib.hid (isText_any x hx0 hx1)
  have HC := Lib.hid (isCont_any x hx0 hx1)
  clear h
  obtain ⟨res, hres⟩ : ∃ res, p.item x = res := ⟨_, rfl⟩
  rw [hres]
  have HR := Lib.hid hres
  clear hres
  have K1 := Lib.hid (Keeps.refl [] w)
  have HX := Lib.hid hx
  have hxb : (x == 193) = false := by simpa using hx
  have HK2 := Lib.hid h2
  clear hx
  have hy1 : (x == 202) = false := by simp; omega
  have hy2 : (x == 203) = false := by simp; omega
  have hw1 : ¬ 199 ≤ x := by omega
  have hw2 : ¬ 212 ≤ x := by omega
  have HM := Lib.hid (show p.item x = p.put (p.c.value (evInt false x)) by
    unfold Pk.item
    rw [if_neg (show ¬ (p.c.done = true ∨ x = 193) by rw [hd]; simp; exact HX.out), if_neg h2, if_neg h3, if_neg h4, if_neg (show ¬ (isContB x = true ∧ p.c.full = true) by rw [hcb]; simp), if_pos h5])
  rcases (show p.c.atKey = false ∨ p.c.atKey = true ∧ isTextB x = true by
    cases hk : p.c.atKey <;> cases ht : isTextB x <;> simp_all) with hk | ⟨hk, ht⟩
  · clear h2
    go_enter Try.func31, Try.ntmps31
    go_wp2_with fail
    refine (HD.out w (Keeps.refl _ _)).mono ?_
    rintro e w' ⟨rfl, rfl⟩
    rw [hd]
    have HDD := Lib.hid hd
    clear hd
    go_wp2_with fail
    refine HA.out.mono ?_
    rintro e w' ⟨rfl, rfl⟩
    rw [hk]
    clear hk
    go_wp2_with fail
    go_wp2_with fail
    refine (HC.out w).mono ?_
    rintro e w' ⟨rfl, rfl⟩
    rw [hcb]
    go_wp2_with fail
    refine ((part_int false x ▸ value_ok H.out.core (evInt false x) : Calls Try.prog _ _ _ _)).mono ?_
    rintro e w9 hg9
    have hg9 := CoreGives.pk hg9
    obtain ⟨v9, rfl, hown9, hpost9⟩ := hg9
    obtain ⟨av9, cv9, rfl⟩ := hown9.shape
    have HOWN9 := Lib.hid hown9
    have HPOST9 := Lib.hid hpost9
    clear hown9 hpost9
    go_wp2_with fail
    go_ret
    rw [← HR.out, HM.out]
    exact PkGives.trans (K1.out.mono (by simp)) (fun i hi => Or.inl hi) ⟨_, rfl, HOWN9.out, HPOST9.out⟩
  · clear h2
    go_enter Try.func31, Try.ntmps31
    go_wp2_with fail
    refine (HD.out w (Keeps.refl _ _)).mono ?_
    rintro e w' ⟨rfl, rfl⟩
    rw [hd]
    have HDD := Lib.hid hd
    clear hd
    go_wp2_with fail
    refine HA.out.mono ?_
    rintro e w' ⟨rfl, rfl⟩
    rw [hk]
    clear hk
    go_wp2_with fail
    refine (HT.out w).mono ?_
    rintro e w' ⟨rfl, rfl⟩
    rw [ht]
    clear ht
    go_wp2_with fail
    go_wp2_with fail
    refine (HC.out w).mono ?_
    rintro e w' ⟨rfl, rfl⟩
    rw [hcb]
    go_wp2_with fail
    refine ((part_int false x ▸ value_ok H.out.core (evInt false x) : Calls Try.prog _ _ _ _)).mono ?_
    rintro e w9 hg9
    have hg9 := CoreGives.pk hg9
    obtain ⟨v9, rfl, hown9, hpost9⟩ := hg9
    obtain ⟨av9, cv9, rfl⟩ := hown9.shape
    have HOWN9 := Lib.hid hown9
    have HPOST9 := Lib.hid hpost9
    clear hown9 hpost9
    go_wp2_with fail
    go_ret
    rw [← HR.out, HM.out]
    exact PkGives.trans (K1.out.mono (by simp)) (fun i hi => Or.inl hi) ⟨_, rfl, HOWN9.out, HPOST9.out⟩

set_option maxHeartbeats 1600000 in
set_option maxRecDepth 100000 in
theorem item_neg {N : Int} {w : World} {base b : Nat} {ov sv : Value} {p : Pk} (h : PkOk N w base b ov sv p) (x : Int) (hx0 : 0 ≤ x) (hx1 : x ≤ 255) (hd : p.c.done = false) (hx : ¬ x = 193) (h2 : ¬ (p.c.atKey = true ∧ isTextB x = false)) (h3 : ¬ (199 ≤ x ∧ x ≤ 201 ∨ 212 ≤ x ∧ x ≤ 216)) (h4 : ¬ (x = 202 ∨ x = 203)) (hcb : isContB x = false) (h5 : 224 ≤ x) :
    Calls Try.prog 31 #[.pointer (some ⟨b, 0, none⟩), .int .u8 x] w (PkGives w base b ov sv (p.item x)) := by
  have hbl := h.in_.blk.lt
  have H := Lib.hid h
  have HD := Lib.hid (fun W (k : Keeps [] w W) => coreDone_any p.c W base b _ _ ov sv (h.core.keep0 k).in_)
  have HA := Lib.hid (atKey_any p.c w base b _ _ ov sv h.core.in_ h.core.opens (fun c hc => by have := h.core.parts c hc; have := h.core.big; omega))
  have HFU := Lib.hid (coreFull_any p.c w base b _ _ ov sv h.core.in_)
  have HFA := Lib.hid (fun e W (k : Keeps [] w W) => fail_gives e p.c W base b _ _ ov sv (h.core.keep0 k).in_)
  have HT := Lib.hid (isText_any x hx0 hx1)
  have HC := Lib.hid (isCont_any x hx0 hx1)
  clear h
  obtain ⟨res, hres⟩ : ∃ res, p.item x = res := ⟨_, rfl⟩
  rw [hres]
  have HR := Lib.hid hres
  clear hres
  have K1 := Lib.hid (Keeps.refl [] w)
  have HX := Lib.hid hx
  have hxb : (x == 193) = false := by simpa using hx
  have HK2 := Lib.hid h2
  clear hx
  have hy1 : (x == 202) = false := by simp; omega
  have hy2 : (x == 203) = false := by simp; omega
  have hw1 : 199 ≤ x := by omega
  have hw2 : ¬ x ≤ 201 := by omega
  have hw3 : 212 ≤ x := by omega
  have hw4 : ¬ x ≤ 216 := by omega
  have hn1 : bits .xor .u8 IntKind.u8.max x = 255 - x := u8_not hx0 hx1
  have hwr : IntKind.u64.wrap (255 - x) = 255 - x := IntWalk.u64_in _ (by omega)
  have hn2 := u8_not' hx0 hx1
  have hlt : ¬ x < 128 := by omega
  have HM := Lib.hid (show p.item x = p.put (p.c.value (evInt true (255 - x))) by
    unfold Pk.item
    rw [if_neg (show ¬ (p.c.done = true ∨ x = 193) by rw [hd]; simp; exact HX.out), if_neg h2, if_neg h3, if_neg h4, if_neg (show ¬ (isContB x = true ∧ p.c.full = true) by rw [hcb]; simp), if_neg (by omega), if_pos h5])
  rcases (show p.c.atKey = false ∨ p.c.atKey = true ∧ isTextB x = true by
    cases hk : p.c.atKey <;> cases ht : isTextB x <;> simp_all) with hk | ⟨hk, ht⟩
  · clear h2
    go_enter Try.func31, Try.ntmps31
    go_wp2_with fail
    refine (HD.out w (Keeps.refl _ _)).mono ?_
    rintro e w' ⟨rfl, rfl⟩
    rw [hd]
    have HDD := Lib.hid hd
    clear hd
    go_wp2_with fail
    refine HA.out.mono ?_
    rintro e w' ⟨rfl, rfl⟩
    rw [hk]
    clear hk
    go_wp2_with fail
    go_wp2_with fail
    refine (HC.out w).mono ?_
    rintro e w' ⟨rfl, rfl⟩
    rw [hcb]
    go_wp2_with fail
    refine ((part_int true (255 - x) ▸ value_ok H.out.core (evInt true (255 - x)) : Calls Try.prog _ _ _ _)).mono ?_
    rintro e w9 hg9
    have hg9 := CoreGives.pk hg9
    obtain ⟨v9, rfl, hown9, hpost9⟩ := hg9
    obtain ⟨av9, cv9, rfl⟩ := hown9.shape
    have HOWN9 := Lib.hid hown9
    have HPOST9 := Lib.hid hpost9
    clear hown9 hpost9
    go_wp2_with fail
    go_ret
    rw [← HR.out, HM.out]
    exact PkGives.trans (K1.out.mono (by simp)) (fun i hi => Or.inl hi) ⟨_, rfl, HOWN9.out, HPOST9.out⟩
  · clear h2
    go_enter Try.func31, Try.ntmps31
    go_wp2_with fail
    refine (HD.out w (Keeps.refl _ _)).mono ?_
    rintro e w' ⟨rfl, rfl⟩
    rw [hd]
    have HDD := Lib.hid hd
    clear hd
    go_wp2_with fail
    refine HA.out.mono ?_
    rintro e w' ⟨rfl, rfl⟩
    rw [hk]
    clear hk
    go_wp2_with fail
    refine (HT.out w).mono ?_
    rintro e w' ⟨rfl, rfl⟩
    rw [ht]
    clear ht
    go_wp2_with fail
    go_wp2_with fail
    refine (HC.out w).mono ?_
    rintro e w' ⟨rfl, rfl⟩
    rw [hcb]
    go_wp2_with fail
    refine ((part_int true (255 - x) ▸ value_ok H.out.core (evInt true (255 - x)) : Calls Try.prog _ _ _ _)).mono ?_
    rintro e w9 hg9
    have hg9 := CoreGives.pk hg9
    obtain ⟨v9, rfl, hown9, hpost9⟩ := hg9
    obtain ⟨av9, cv9, rfl⟩ := hown9.shape
    have HOWN9 := Lib.hid hown9
    have HPOST9 := Lib.hid hpost9
    clear hown9 hpost9
    go_wp2_with fail
    go_ret
    rw [← HR.out, HM.out]
    exact PkGives.trans (K1.out.mono (by simp)) (fun i hi => Or.inl hi) ⟨_, rfl, HOWN9.out, HPOST9.out⟩

set_option maxHeartbeats 1600000 in
set_option maxRecDepth 100000 in
theorem item_map {N : Int} {w : World} {base b : Nat} {ov sv : Value} {p : Pk} (h : PkOk N w base b ov sv p) (x : Int) (hx0 : 0 ≤ x) (hx1 : x ≤ 255) (hd : p.c.done = false) (hx : ¬ x = 193) (h2 : ¬ (p.c.atKey = true ∧ isTextB x = false)) (h3 : ¬ (199 ≤ x ∧ x ≤ 201 ∨ 212 ≤ x ∧ x ≤ 216)) (h4 : ¬ (x = 202 ∨ x = 203)) (hcb : isContB x = true) (hfu : p.c.full = false) (h5 : 128 ≤ x) (h6 : x < 144) :
    Calls Try.prog 31 #[.pointer (some ⟨b, 0, none⟩), .int .u8 x] w (PkGives w base b ov sv (p.item x)) := by
  have hbl := h.in_.blk.lt
  have H := Lib.hid h
  have HD := Lib.hid (fun W (k : Keeps [] w W) => coreDone_any p.c W base b _ _ ov sv (h.core.keep0 k).in_)
  have HA := Lib.hid (atKey_any p.c w base b _ _ ov sv h.core.in_ h.core.opens (fun c hc => by have := h.core.parts c hc; have := h.core.big; omega))
  have HFU := Lib.hid (coreFull_any p.c w base b _ _ ov sv h.core.in_)
  have HFA := Lib.hid (fun e W (k : Keeps [] w W) => fail_gives e p.c W base b _ _ ov sv (h.core.keep0 k).in_)
  have HT := Lib.hid (isText_any x hx0 hx1)
  have HC := Lib.hid (isCont_any x hx0 hx1)
  clear h
  obtain ⟨res, hres⟩ : ∃ res, p.item x = res := ⟨_, rfl⟩
  rw [hres]
  have HR := Lib.hid hres
  clear hres
  have K1 := Lib.hid (Keeps.refl [] w)
  have HX := Lib.hid hx
  have hxb : (x == 193) = false := by simpa using hx
  have HK2 := Lib.hid h2
  clear hx
  have hy1 : (x == 202) = false := by simp; omega
  have hy2 : (x == 203) = false := by simp; omega
  have hw1 : ¬ 199 ≤ x := by omega
  have hw2 : ¬ 212 ≤ x := by omega
  have ha := pk_and15 hx0 hx1
  have hlt : ¬ x < 128 := by omega
  have hge : ¬ 224 ≤ x := by omega
  have hl6 : x < 160 := by omega
  have HM := Lib.hid (show p.item x = p.count true (x % 16) by
    unfold Pk.item
    rw [if_neg (show ¬ (p.c.done = true ∨ x = 193) by rw [hd]; simp; exact HX.out), if_neg h2, if_neg h3, if_neg h4, if_neg (show ¬ (isContB x = true ∧ p.c.full = true) by rw [hfu]; simp), if_neg (by omega), if_neg (by omega), if_pos (by omega)]
    rw [show decide (x < 144) = true from decide_eq_true h6])
  rcases (show p.c.atKey = false ∨ p.c.atKey = true ∧ isTextB x = true by
    cases hk : p.c.atKey <;> cases ht : isTextB x <;> simp_all) with hk | ⟨hk, ht⟩
  · clear h2
    go_enter Try.func31, Try.ntmps31
    go_wp2_with fail
    refine (HD.out w (Keeps.refl _ _)).mono ?_
    rintro e w' ⟨rfl, rfl⟩
    rw [hd]
    have HDD := Lib.hid hd
    clear hd
    go_wp2_with fail
    refine HA.out.mono ?_
    rintro e w' ⟨rfl, rfl⟩
    rw [hk]
    clear hk
    go_wp2_with fail
    go_wp2_with fail
    refine (HC.out w).mono ?_
    rintro e w' ⟨rfl, rfl⟩
    rw [hcb]
    go_wp2_with fail
    refine HFU.out.mono ?_
    rintro e w1 ⟨rfl, k1⟩
    have K1 := Lib.hid k1
    rw [hfu]
    clear k1
    go_wp2_with fail
    refine (pcount_any (H.out.keep0 K1.out) true (x % 16) (by omega) (by omega)).mono ?_
    rintro e w9 hg9
    skip
    obtain ⟨v9, rfl, hown9, hpost9⟩ := hg9
    obtain ⟨av9, cv9, rfl⟩ := hown9.shape
    have HOWN9 := Lib.hid hown9
    have HPOST9 := Lib.hid hpost9
    clear hown9 hpost9
    go_wp2_with fail
    go_ret
    rw [← HR.out, HM.out]
    exact PkGives.trans (K1.out.mono (by simp)) (fun i hi => Or.inl hi) ⟨_, rfl, HOWN9.out, HPOST9.out⟩
  · clear h2
    go_enter Try.func31, Try.ntmps31
    go_wp2_with fail
    refine (HD.out w (Keeps.refl _ _)).mono ?_
    rintro e w' ⟨rfl, rfl⟩
    rw [hd]
    have HDD := Lib.hid hd
    clear hd
    go_wp2_with fail
    refine HA.out.mono ?_
    rintro e w' ⟨rfl, rfl⟩
    rw [hk]
    clear hk
    go_wp2_with fail
    refine (HT.out w).mono ?_
    rintro e w' ⟨rfl, rfl⟩
    rw [ht]
    clear ht
    go_wp2_with fail
    go_wp2_with fail
    refine (HC.out w).mono ?_
    rintro e w' ⟨rfl, rfl⟩
    rw [hcb]
    go_wp2_with fail
    refine HFU.out.mono ?_
    rintro e w1 ⟨rfl, k1⟩
    have K1 := Lib.hid k1
    rw [hfu]
    clear k1
    go_wp2_with fail
    refine (pcount_any (H.out.keep0 K1.out) true (x % 16) (by omega) (by omega)).mono ?_
    rintro e w9 hg9
    skip
    obtain ⟨v9, rfl, hown9, hpost9⟩ := hg9
    obtain ⟨av9, cv9, rfl⟩ := hown9.shape
    have HOWN9 := Lib.hid hown9
    have HPOST9 := Lib.hid hpost9
    clear hown9 hpost9
    go_wp2_with fail
    go_ret
    rw [← HR.out, HM.out]
    exact PkGives.trans (K1.out.mono (by simp)) (fun i hi => Or.inl hi) ⟨_, rfl, HOWN9.out, HPOST9.out⟩

set_option maxHeartbeats 1600000 in
set_option maxRecDepth 100000 in
theorem item_arr {N : Int} {w : World} {base b : Nat} {ov sv : Value} {p : Pk} (h : PkOk N w base b ov sv p) (x : Int) (hx0 : 0 ≤ x) (hx1 : x ≤ 255) (hd : p.c.done = false) (hx : ¬ x = 193) (h2 : ¬ (p.c.atKey = true ∧ isTextB x = false)) (h3 : ¬ (199 ≤ x ∧ x ≤ 201 ∨ 212 ≤ x ∧ x ≤ 216)) (h4 : ¬ (x = 202 ∨ x = 203)) (hcb : isContB x = true) (hfu : p.c.full = false) (h5 : 144 ≤ x) (h6 : x < 160) :
    Calls Try.prog 31 #[.pointer (some ⟨b, 0, none⟩), .int .u8 x] w (PkGives w base b ov sv (p.item x)) := by
  have hbl := h.in_.blk.lt
  have H := Lib.hid h
  have HD := Lib.hid (fun W (k : Keeps [] w W) => coreDone_any p.c W base b _ _ ov sv (h.core.keep0 k).in_)
  have HA := Lib.hid (atKey_any p.c w base b _ _ ov sv h.core.in_ h.core.opens (fun c hc => by have := h.core.parts c hc; have := h.core.big; omega))
  have HFU := Lib.hid (coreFull_any p.c w base b _ _ ov sv h.core.in_)
  have HFA := Lib.hid (fun e W (k : Keeps [] w W) => fail_gives e p.c W base b _ _ ov sv (h.core.keep0 k).in_)
  have HT := Lib.hid (isText_any x hx0 hx1)
  have HC := Lib.hid (isCont_any x hx0 hx1)
  clear h
  obtain ⟨res, hres⟩ : ∃ res, p.item x = res := ⟨_, rfl⟩
  rw [hres]
  have HR := Lib.hid hres
  clear hres
  have K1 := Lib.hid (Keeps.refl [] w)
  have HX := Lib.hid hx
  have hxb : (x == 193) = false := by simpa using hx
  have HK2 := Lib.hid h2
  clear hx
  have hy1 : (x == 202) = false := by simp; omega
  have hy2 : (x == 203) = false := by simp; omega
  have hw1 : ¬ 199 ≤ x := by omega
  have hw2 : ¬ 212 ≤ x := by omega
  have ha := pk_and15 hx0 hx1
  have hlt : ¬ x < 128 := by omega
  have hge : ¬ 224 ≤ x := by omega
  have hdec : decide (x < 144) = false := decide_eq_false (by omega)
  have HM := Lib.hid (show p.item x = p.count false (x % 16) by
    unfold Pk.item
    rw [if_neg (show ¬ (p.c.done = true ∨ x = 193) by rw [hd]; simp; exact HX.out), if_neg h2, if_neg h3, if_neg h4, if_neg (show ¬ (isContB x = true ∧ p.c.full = true) by rw [hfu]; simp), if_neg (by omega), if_neg (by omega), if_pos (by omega)]
    rw [show decide (x < 144) = false from decide_eq_false (by omega)])
  rcases (show p.c.atKey = false ∨ p.c.atKey = true ∧ isTextB x = true by
    cases hk : p.c.atKey <;> cases ht : isTextB x <;> simp_all) with hk | ⟨hk, ht⟩
  · clear h2
    go_enter Try.func31, Try.ntmps31
    go_wp2_with fail
    refine (HD.out w (Keeps.refl _ _)).mono ?_
    rintro e w' ⟨rfl, rfl⟩
    rw [hd]
    have HDD := Lib.hid hd
    clear hd
    go_wp2_with fail
    refine HA.out.mono ?_
    rintro e w' ⟨rfl, rfl⟩
    rw [hk]
    clear hk
    go_wp2_with fail
    go_wp2_with fail
    refine (HC.out w).mono ?_
    rintro e w' ⟨rfl, rfl⟩
    rw [hcb]
    go_wp2_with fail
    refine HFU.out.mono ?_
    rintro e w1 ⟨rfl, k1⟩
    have K1 := Lib.hid k1
    rw [hfu]
    clear k1
    go_wp2_with fail
    refine (pcount_any (H.out.keep0 K1.out) false (x % 16) (by omega) (by omega)).mono ?_
    rintro e w9 hg9
    skip
    obtain ⟨v9, rfl, hown9, hpost9⟩ := hg9
    obtain ⟨av9, cv9, rfl⟩ := hown9.shape
    have HOWN9 := Lib.hid hown9
    have HPOST9 := Lib.hid hpost9
    clear hown9 hpost9
    go_wp2_with fail
    go_ret
    rw [← HR.out, HM.out]
    exact PkGives.trans (K1.out.mono (by simp)) (fun i hi => Or.inl hi) ⟨_, rfl, HOWN9.out, HPOST9.out⟩
  · clear h2
    go_enter Try.func31, Try.ntmps31
    go_wp2_with fail
    refine (HD.out w (Keeps.refl _ _)).mono ?_
    rintro e w' ⟨rfl, rfl⟩
    rw [hd]
    have HDD := Lib.hid hd
    clear hd
    go_wp2_with fail
    refine HA.out.mono ?_
    rintro e w' ⟨rfl, rfl⟩
    rw [hk]
    clear hk
    go_wp2_with fail
    refine (HT.out w).mono ?_
    rintro e w' ⟨rfl, rfl⟩
    rw [ht]
    clear ht
    go_wp2_with fail
    go_wp2_with fail
    refine (HC.out w).mono ?_
    rintro e w' ⟨rfl, rfl⟩
    rw [hcb]
    go_wp2_with fail
    refine HFU.out.mono ?_
    rintro e w1 ⟨rfl, k1⟩
    have K1 := Lib.hid k1
    rw [hfu]
    clear k1
    go_wp2_with fail
    refine (pcount_any (H.out.keep0 K1.out) false (x % 16) (by omega) (by omega)).mono ?_
    rintro e w9 hg9
    skip
    obtain ⟨v9, rfl, hown9, hpost9⟩ := hg9
    obtain ⟨av9, cv9, rfl⟩ := hown9.shape
    have HOWN9 := Lib.hid hown9
    have HPOST9 := Lib.hid hpost9
    clear hown9 hpost9
    go_wp2_with fail
    go_ret
    rw [← HR.out, HM.out]
    exact PkGives.trans (K1.out.mono (by simp)) (fun i hi => Or.inl hi) ⟨_, rfl, HOWN9.out, HPOST9.out⟩

set_option maxHeartbeats 1600000 in
set_option maxRecDepth 100000 in
theorem item_str {N : Int} {w : World} {base b : Nat} {ov sv : Value} {p : Pk} (h : PkOk N w base b ov sv p) (x : Int) (hx0 : 0 ≤ x) (hx1 : x ≤ 255) (hd : p.c.done = false) (hx : ¬ x = 193) (h2 : ¬ (p.c.atKey = true ∧ isTextB x = false)) (h3 : ¬ (199 ≤ x ∧ x ≤ 201 ∨ 212 ≤ x ∧ x ≤ 216)) (h4 : ¬ (x = 202 ∨ x = 203)) (hcb : isContB x = false) (h5 : 160 ≤ x) (h6 : x < 192) :
    Calls Try.prog 31 #[.pointer (some ⟨b, 0, none⟩), .int .u8 x] w (PkGives w base b ov sv (p.item x)) := by
  have hbl := h.in_.blk.lt
  have H := Lib.hid h
  have HD := Lib.hid (fun W (k : Keeps [] w W) => coreDone_any p.c W base b _ _ ov sv (h.core.keep0 k).in_)
  have HA := Lib.hid (atKey_any p.c w base b _ _ ov sv h.core.in_ h.core.opens (fun c hc => by have := h.core.parts c hc; have := h.core.big; omega))
  have HFU := Lib.hid (coreFull_any p.c w base b _ _ ov sv h.core.in_)
  have HFA := Lib.hid (fun e W (k : Keeps [] w W) => fail_gives e p.c W base b _ _ ov sv (h.core.keep0 k).in_)
  have HT := Lib.hid (isText_any x hx0 hx1)
  have HC := Lib.hid (isCont_any x hx0 hx1)
  clear h
  obtain ⟨res, hres⟩ : ∃ res, p.item x = res := ⟨_, rfl⟩
  rw [hres]
  have HR := Lib.hid hres
  clear hres
  have K1 := Lib.hid (Keeps.refl [] w)
  have HX := Lib.hid hx
  have hxb : (x == 193) = false := by simpa using hx
  have HK2 := Lib.hid h2
  clear hx
  have hy1 : (x == 202) = false := by simp; omega
  have hy2 : (x == 203) = false := by simp; omega
  have hw1 : ¬ 199 ≤ x := by omega
  have hw2 : ¬ 212 ≤ x := by omega
  have ha := pk_and31 hx0 hx1
  have hlt : ¬ x < 128 := by omega
  have hge : ¬ 224 ≤ x := by omega
  have hl6 : ¬ x < 160 := by omega
  have HM := Lib.hid (show p.item x = p.put (p.c.length true (x % 32)) by
    unfold Pk.item
    rw [if_neg (show ¬ (p.c.done = true ∨ x = 193) by rw [hd]; simp; exact HX.out), if_neg h2, if_neg h3, if_neg h4, if_neg (show ¬ (isContB x = true ∧ p.c.full = true) by rw [hcb]; simp), if_neg (by omega), if_neg (by omega), if_neg (by omega), if_pos h6])
  rcases (show p.c.atKey = false ∨ p.c.atKey = true ∧ isTextB x = true by
    cases hk : p.c.atKey <;> cases ht : isTextB x <;> simp_all) with hk | ⟨hk, ht⟩
  · clear h2
    go_enter Try.func31, Try.ntmps31
    go_wp2_with fail
    refine (HD.out w (Keeps.refl _ _)).mono ?_
    rintro e w' ⟨rfl, rfl⟩
    rw [hd]
    have HDD := Lib.hid hd
    clear hd
    go_wp2_with fail
    refine HA.out.mono ?_
    rintro e w' ⟨rfl, rfl⟩
    rw [hk]
    clear hk
    go_wp2_with fail
    go_wp2_with fail
    refine (HC.out w).mono ?_
    rintro e w' ⟨rfl, rfl⟩
    rw [hcb]
    go_wp2_with fail
    refine (length_any H.out.core true (x % 32) (by omega) (by omega)).mono ?_
    rintro e w9 hg9
    have hg9 := CoreGives.pk hg9
    obtain ⟨v9, rfl, hown9, hpost9⟩ := hg9
    obtain ⟨av9, cv9, rfl⟩ := hown9.shape
    have HOWN9 := Lib.hid hown9
    have HPOST9 := Lib.hid hpost9
    clear hown9 hpost9
    go_wp2_with fail
    go_ret
    rw [← HR.out, HM.out]
    exact PkGives.trans (K1.out.mono (by simp)) (fun i hi => Or.inl hi) ⟨_, rfl, HOWN9.out, HPOST9.out⟩
  · clear h2
    go_enter Try.func31, Try.ntmps31
    go_wp2_with fail
    refine (HD.out w (Keeps.refl _ _)).mono ?_
    rintro e w' ⟨rfl, rfl⟩
    rw [hd]
    have HDD := Lib.hid hd
    clear hd
    go_wp2_with fail
    refine HA.out.mono ?_
    rintro e w' ⟨rfl, rfl⟩
    rw [hk]
    clear hk
    go_wp2_with fail
    refine (HT.out w).mono ?_
    rintro e w' ⟨rfl, rfl⟩
    rw [ht]
    clear ht
    go_wp2_with fail
    go_wp2_with fail
    refine (HC.out w).mono ?_
    rintro e w' ⟨rfl, rfl⟩
    rw [hcb]
    go_wp2_with fail
    refine (length_any H.out.core true (x % 32) (by omega) (by omega)).mono ?_
    rintro e w9 hg9
    have hg9 := CoreGives.pk hg9
    obtain ⟨v9, rfl, hown9, hpost9⟩ := hg9
    obtain ⟨av9, cv9, rfl⟩ := hown9.shape
    have HOWN9 := Lib.hid hown9
    have HPOST9 := Lib.hid hpost9
    clear hown9 hpost9
    go_wp2_with fail
    go_ret
    rw [← HR.out, HM.out]
    exact PkGives.trans (K1.out.mono (by simp)) (fun i hi => Or.inl hi) ⟨_, rfl, HOWN9.out, HPOST9.out⟩

set_option maxHeartbeats 1600000 in
set_option maxRecDepth 100000 in
theorem item_null {N : Int} {w : World} {base b : Nat} {ov sv : Value} {p : Pk} (h : PkOk N w base b ov sv p) (x : Int) (hx0 : 0 ≤ x) (hx1 : x ≤ 255) (hd : p.c.done = false) (hx : ¬ x = 193) (h2 : ¬ (p.c.atKey = true ∧ isTextB x = false)) (h3 : ¬ (199 ≤ x ∧ x ≤ 201 ∨ 212 ≤ x ∧ x ≤ 216)) (h4 : ¬ (x = 202 ∨ x = 203)) (hcb : isContB x = false) (h5 : x = 192) :
    Calls Try.prog 31 #[.pointer (some ⟨b, 0, none⟩), .int .u8 x] w (PkGives w base b ov sv (p.item x)) := by
  have hbl := h.in_.blk.lt
  have H := Lib.hid h
  have HD := Lib.hid (fun W (k : Keeps [] w W) => coreDone_any p.c W base b _ _ ov sv (h.core.keep0 k).in_)
  have HA := Lib.hid (atKey_any p.c w base b _ _ ov sv h.core.in_ h.core.opens (fun c hc => by have := h.core.parts c hc; have := h.core.big; omega))
  have HFU := Lib.hid (coreFull_any p.c w base b _ _ ov sv h.core.in_)
  have HFA := Lib.hid (fun e W (k : Keeps [] w W) => fail_gives e p.c W base b _ _ ov sv (h.core.keep0 k).in_)
  have HT := Lib.hid (isText_any x hx0 hx1)
  have HC := Lib.hid (isCont_any x hx0 hx1)
  clear h
  obtain ⟨res, hres⟩ : ∃ res, p.item x = res := ⟨_, rfl⟩
  rw [hres]
  have HR := Lib.hid hres
  clear hres
  have K1 := Lib.hid (Keeps.refl [] w)
  have HX := Lib.hid hx
  have hxb : (x == 193) = false := by simpa using hx
  have HK2 := Lib.hid h2
  clear hx
  have hy1 : (x == 202) = false := by simp; omega
  have hy2 : (x == 203) = false := by simp; omega
  have HM := Lib.hid (show p.item x = p.put (p.c.value evNull) by
    unfold Pk.item
    rw [if_neg (show ¬ (p.c.done = true ∨ x = 193) by rw [hd]; simp; exact HX.out), if_neg h2, if_neg h3, if_neg h4, if_neg (show ¬ (isContB x = true ∧ p.c.full = true) by rw [hcb]; simp), if_neg (by omega), if_neg (by omega), if_neg (by omega), if_neg (by omega), if_pos h5])
  subst h5
  rcases (show p.c.atKey = false ∨ p.c.atKey = true ∧ isTextB (192 : Int) = true by
    cases hk : p.c.atKey <;> cases ht : isTextB (192 : Int) <;> simp_all) with hk | ⟨hk, ht⟩
  · clear h2
    go_enter Try.func31, Try.ntmps31
    go_wp2_with fail
    refine (HD.out w (Keeps.refl _ _)).mono ?_
    rintro e w' ⟨rfl, rfl⟩
    rw [hd]
    have HDD := Lib.hid hd
    clear hd
    go_wp2_with fail
    refine HA.out.mono ?_
    rintro e w' ⟨rfl, rfl⟩
    rw [hk]
    clear hk
    go_wp2_with fail
    go_wp2_with fail
    refine (HC.out w).mono ?_
    rintro e w' ⟨rfl, rfl⟩
    rw [hcb]
    go_wp2_with fail
    refine ((part_null ▸ value_ok H.out.core evNull : Calls Try.prog _ _ _ _)).mono ?_
    rintro e w9 hg9
    have hg9 := CoreGives.pk hg9
    obtain ⟨v9, rfl, hown9, hpost9⟩ := hg9
    obtain ⟨av9, cv9, rfl⟩ := hown9.shape
    have HOWN9 := Lib.hid hown9
    have HPOST9 := Lib.hid hpost9
    clear hown9 hpost9
    go_wp2_with fail
    go_ret
    rw [← HR.out, HM.out]
    exact PkGives.trans (K1.out.mono (by simp)) (fun i hi => Or.inl hi) ⟨_, rfl, HOWN9.out, HPOST9.out⟩
  · clear h2
    go_enter Try.func31, Try.ntmps31
    go_wp2_with fail
    refine (HD.out w (Keeps.refl _ _)).mono ?_
    rintro e w' ⟨rfl, rfl⟩
    rw [hd]
    have HDD := Lib.hid hd
    clear hd
    go_wp2_with fail
    refine HA.out.mono ?_
    rintro e w' ⟨rfl, rfl⟩
    rw [hk]
    clear hk
    go_wp2_with fail
    refine (HT.out w).mono ?_
    rintro e w' ⟨rfl, rfl⟩
    rw [ht]
    clear ht
    go_wp2_with fail
    go_wp2_with fail
    refine (HC.out w).mono ?_
    rintro e w' ⟨rfl, rfl⟩
    rw [hcb]
    go_wp2_with fail
    refine ((part_null ▸ value_ok H.out.core evNull : Calls Try.prog _ _ _ _)).mono ?_
    rintro e w9 hg9
    have hg9 := CoreGives.pk hg9
    obtain ⟨v9, rfl, hown9, hpost9⟩ := hg9
    obtain ⟨av9, cv9, rfl⟩ := hown9.shape
    have HOWN9 := Lib.hid hown9
    have HPOST9 := Lib.hid hpost9
    clear hown9 hpost9
    go_wp2_with fail
    go_ret
    rw [← HR.out, HM.out]
    exact PkGives.trans (K1.out.mono (by simp)) (fun i hi => Or.inl hi) ⟨_, rfl, HOWN9.out, HPOST9.out⟩

set_option maxHeartbeats 1600000 in
set_option maxRecDepth 100000 in
theorem item_bool194 {N : Int} {w : World} {base b : Nat} {ov sv : Value} {p : Pk} (h : PkOk N w base b ov sv p) (x : Int) (hx0 : 0 ≤ x) (hx1 : x ≤ 255) (hd : p.c.done = false) (hx : ¬ x = 193) (h2 : ¬ (p.c.atKey = true ∧ isTextB x = false)) (h3 : ¬ (199 ≤ x ∧ x ≤ 201 ∨ 212 ≤ x ∧ x ≤ 216)) (h4 : ¬ (x = 202 ∨ x = 203)) (hcb : isContB x = false) (h5 : x = 194) :
    Calls Try.prog 31 #[.pointer (some ⟨b, 0, none⟩), .int .u8 x] w (PkGives w base b ov sv (p.item x)) := by
  have hbl := h.in_.blk.lt
  have H := Lib.hid h
  have HD := Lib.hid (fun W (k : Keeps [] w W) => coreDone_any p.c W base b _ _ ov sv (h.core.keep0 k).in_)
  have HA := Lib.hid (atKey_any p.c w base b _ _ ov sv h.core.in_ h.core.opens (fun c hc => by have := h.core.parts c hc; have := h.core.big; omega))
  have HFU := Lib.hid (coreFull_any p.c w base b _ _ ov sv h.core.in_)
  have HFA := Lib.hid (fun e W (k : Keeps [] w W) => fail_gives e p.c W base b _ _ ov sv (h.core.keep0 k).in_)
  have HT := Lib.hid (isText_any x hx0 hx1)
  have HC := Lib.hid (isCont_any x hx0 hx1)
  clear h
  obtain ⟨res, hres⟩ : ∃ res, p.item x = res := ⟨_, rfl⟩
  rw [hres]
  have HR := Lib.hid hres
  clear hres
  have K1 := Lib.hid (Keeps.refl [] w)
  have HX := Lib.hid hx
  have hxb : (x == 193) = false := by simpa using hx
  have HK2 := Lib.hid h2
  clear hx
  have hy1 : (x == 202) = false := by simp; omega
  have hy2 : (x == 203) = false := by simp; omega
  have HM := Lib.hid (show p.item x = p.put (p.c.value (evBool false)) by
    unfold Pk.item
    rw [if_neg (show ¬ (p.c.done = true ∨ x = 193) by rw [hd]; simp; exact HX.out), if_neg h2, if_neg h3, if_neg h4, if_neg (show ¬ (isContB x = true ∧ p.c.full = true) by rw [hcb]; simp), if_neg (by omega), if_neg (by omega), if_neg (by omega), if_neg (by omega), if_neg (by omega), if_pos (by omega)]
    rw [h5]
    rfl)
  subst h5
  rcases (show p.c.atKey = false ∨ p.c.atKey = true ∧ isTextB (194 : Int) = true by
    cases hk : p.c.atKey <;> cases ht : isTextB (194 : Int) <;> simp_all) with hk | ⟨hk, ht⟩
  · clear h2
    go_enter Try.func31, Try.ntmps31
    go_wp2_with fail
    refine (HD.out w (Keeps.refl _ _)).mono ?_
    rintro e w' ⟨rfl, rfl⟩
    rw [hd]
    have HDD := Lib.hid hd
    clear hd
    go_wp2_with fail
    refine HA.out.mono ?_
    rintro e w' ⟨rfl, rfl⟩
    rw [hk]
    clear hk
    go_wp2_with fail
    go_wp2_with fail
    refine (HC.out w).mono ?_
    rintro e w' ⟨rfl, rfl⟩
    rw [hcb]
    go_wp2_with fail
    refine ((part_bool false ▸ value_ok H.out.core (evBool false) : Calls Try.prog _ _ _ _)).mono ?_
    rintro e w9 hg9
    have hg9 := CoreGives.pk hg9
    obtain ⟨v9, rfl, hown9, hpost9⟩ := hg9
    obtain ⟨av9, cv9, rfl⟩ := hown9.shape
    have HOWN9 := Lib.hid hown9
    have HPOST9 := Lib.hid hpost9
    clear hown9 hpost9
    go_wp2_with fail
    go_ret
    rw [← HR.out, HM.out]
    exact PkGives.trans (K1.out.mono (by simp)) (fun i hi => Or.inl hi) ⟨_, rfl, HOWN9.out, HPOST9.out⟩
  · clear h2
    go_enter Try.func31, Try.ntmps31
    go_wp2_with fail
    refine (HD.out w (Keeps.refl _ _)).mono ?_
    rintro e w' ⟨rfl, rfl⟩
    rw [hd]
    have HDD := Lib.hid hd
    clear hd
    go_wp2_with fail
    refine HA.out.mono ?_
    rintro e w' ⟨rfl, rfl⟩
    rw [hk]
    clear hk
    go_wp2_with fail
    refine (HT.out w).mono ?_
    rintro e w' ⟨rfl, rfl⟩
    rw [ht]
    clear ht
    go_wp2_with fail
    go_wp2_with fail
    refine (HC.out w).mono ?_
    rintro e w' ⟨rfl, rfl⟩
    rw [hcb]
    go_wp2_with fail
    refine ((part_bool false ▸ value_ok H.out.core (evBool false) : Calls Try.prog _ _ _ _)).mono ?_
    rintro e w9 hg9
    have hg9 := CoreGives.pk hg9
    obtain ⟨v9, rfl, hown9, hpost9⟩ := hg9
    obtain ⟨av9, cv9, rfl⟩ := hown9.shape
    have HOWN9 := Lib.hid hown9
    have HPOST9 := Lib.hid hpost9
    clear hown9 hpost9
    go_wp2_with fail
    go_ret
    rw [← HR.out, HM.out]
    exact PkGives.trans (K1.out.mono (by simp)) (fun i hi => Or.inl hi) ⟨_, rfl, HOWN9.out, HPOST9.out⟩

set_option maxHeartbeats 1600000 in
set_option maxRecDepth 100000 in
theorem item_bool195 {N : Int} {w : World} {base b : Nat} {ov sv : Value} {p : Pk} (h : PkOk N w base b ov sv p) (x : Int) (hx0 : 0 ≤ x) (hx1 : x ≤ 255) (hd : p.c.done = false) (hx : ¬ x = 193) (h2 : ¬ (p.c.atKey = true ∧ isTextB x = false)) (h3 : ¬ (199 ≤ x ∧ x ≤ 201 ∨ 212 ≤ x ∧ x ≤ 216)) (h4 : ¬ (x = 202 ∨ x = 203)) (hcb : isContB x = false) (h5 : x = 195) :
    Calls Try.prog 31 #[.pointer (some ⟨b, 0, none⟩), .int .u8 x] w (PkGives w base b ov sv (p.item x)) := by
  have hbl := h.in_.blk.lt
  have H := Lib.hid h
  have HD := Lib.hid (fun W (k : Keeps [] w W) => coreDone_any p.c W base b _ _ ov sv (h.core.keep0 k).in_)
  have HA := Lib.hid (atKey_any p.c w base b _ _ ov sv h.core.in_ h.core.opens (fun c hc => by have := h.core.parts c hc; have := h.core.big; omega))
  have HFU := Lib.hid (coreFull_any p.c w base b _ _ ov sv h.core.in_)
  have HFA := Lib.hid (fun e W (k : Keeps [] w W) => fail_gives e p.c W base b _ _ ov sv (h.core.keep0 k).in_)
  have HT := Lib.hid (isText_any x hx0 hx1)
  have HC := Lib.hid (isCont_any x hx0 hx1)
  clear h
  obtain ⟨res, hres⟩ : ∃ res, p.item x = res := ⟨_, rfl⟩
  rw [hres]
  have HR := Lib.hid hres
  clear hres
  have K1 := Lib.hid (Keeps.refl [] w)
  have HX := Lib.hid hx
  have hxb : (x == 193) = false := by simpa using hx
  have HK2 := Lib.hid h2
  clear hx
  have hy1 : (x == 202) = false := by simp; omega
  have hy2 : (x == 203) = false := by simp; omega
  have HM := Lib.hid (show p.item x = p.put (p.c.value (evBool true)) by
    unfold Pk.item
    rw [if_neg (show ¬ (p.c.done = true ∨ x = 193) by rw [hd]; simp; exact HX.out), if_neg h2, if_neg h3, if_neg h4, if_neg (show ¬ (isContB x = true ∧ p.c.full = true) by rw [hcb]; simp), if_neg (by omega), if_neg (by omega), if_neg (by omega), if_neg (by omega), if_neg (by omega), if_pos (by omega)]
    rw [h5]
    rfl)
  subst h5
  rcases (show p.c.atKey = false ∨ p.c.atKey = true ∧ isTextB (195 : Int) = true by
    cases hk : p.c.atKey <;> cases ht : isTextB (195 : Int) <;> simp_all) with hk | ⟨hk, ht⟩
  · clear h2
    go_enter Try.func31, Try.ntmps31
    go_wp2_with fail
    refine (HD.out w (Keeps.refl _ _)).mono ?_
    rintro e w' ⟨rfl, rfl⟩
    rw [hd]
    have HDD := Lib.hid hd
    clear hd
    go_wp2_with fail
    refine HA.out.mono ?_
    rintro e w' ⟨rfl, rfl⟩
    rw [hk]
    clear hk
    go_wp2_with fail
    go_wp2_with fail
    refine (HC.out w).mono ?_
    rintro e w' ⟨rfl, rfl⟩
    rw [hcb]
    go_wp2_with fail
    refine ((part_bool true ▸ value_ok H.out.core (evBool true) : Calls Try.prog _ _ _ _)).mono ?_
    rintro e w9 hg9
    have hg9 := CoreGives.pk hg9
    obtain ⟨v9, rfl, hown9, hpost9⟩ := hg9
    obtain ⟨av9, cv9, rfl⟩ := hown9.shape
    have HOWN9 := Lib.hid hown9
    have HPOST9 := Lib.hid hpost9
    clear hown9 hpost9
    go_wp2_with fail
    go_ret
    rw [← HR.out, HM.out]
    exact PkGives.trans (K1.out.mono (by simp)) (fun i hi => Or.inl hi) ⟨_, rfl, HOWN9.out, HPOST9.out⟩
  · clear h2
    go_enter Try.func31, Try.ntmps31
    go_wp2_with fail
    refine (HD.out w (Keeps.refl _ _)).mono ?_
    rintro e w' ⟨rfl, rfl⟩
    rw [hd]
    have HDD := Lib.hid hd
    clear hd
    go_wp2_with fail
    refine HA.out.mono ?_
    rintro e w' ⟨rfl, rfl⟩
    rw [hk]
    clear hk
    go_wp2_with fail
    refine (HT.out w).mono ?_
    rintro e w' ⟨rfl, rfl⟩
    rw [ht]
    clear ht
    go_wp2_with fail
    go_wp2_with fail
    refine (HC.out w).mono ?_
    rintro e w' ⟨rfl, rfl⟩
    rw [hcb]
    go_wp2_with fail
    refine ((part_bool true ▸ value_ok H.out.core (evBool true) : Calls Try.prog _ _ _ _)).mono ?_
    rintro e w9 hg9
    have hg9 := CoreGives.pk hg9
    obtain ⟨v9, rfl, hown9, hpost9⟩ := hg9
    obtain ⟨av9, cv9, rfl⟩ := hown9.shape
    have HOWN9 := Lib.hid hown9
    have HPOST9 := Lib.hid hpost9
    clear hown9 hpost9
    go_wp2_with fail
    go_ret
    rw [← HR.out, HM.out]
    exact PkGives.trans (K1.out.mono (by simp)) (fun i hi => Or.inl hi) ⟨_, rfl, HOWN9.out, HPOST9.out⟩

set_option maxHeartbeats 1600000 in
set_option maxRecDepth 100000 in
theorem item_long_a {N : Int} {w : World} {base b : Nat} {ov sv : Value} {p : Pk} (h : PkOk N w base b ov sv p) (x : Int) (hx0 : 0 ≤ x) (hx1 : x ≤ 255) (hd : p.c.done = false) (hx : ¬ x = 193) (h2 : ¬ (p.c.atKey = true ∧ isTextB x = false)) (h3 : ¬ (199 ≤ x ∧ x ≤ 201 ∨ 212 ≤ x ∧ x ≤ 216)) (h4 : ¬ (x = 202 ∨ x = 203)) (hcb : isContB x = false) (h5 : 196 ≤ x ∧ x ≤ 198) :
    Calls Try.prog 31 #[.pointer (some ⟨b, 0, none⟩), .int .u8 x] w (PkGives w base b ov sv (p.item x)) := by
  have hbl := h.in_.blk.lt
  have H := Lib.hid h
  have HD := Lib.hid (fun W (k : Keeps [] w W) => coreDone_any p.c W base b _ _ ov sv (h.core.keep0 k).in_)
  have HA := Lib.hid (atKey_any p.c w base b _ _ ov sv h.core.in_ h.core.opens (fun c hc => by have := h.core.parts c hc; have := h.core.big; omega))
  have HFU := Lib.hid (coreFull_any p.c w base b _ _ ov sv h.core.in_)
  have HFA := Lib.hid (fun e W (k : Keeps [] w W) => fail_gives e p.c W base b _ _ ov sv (h.core.keep0 k).in_)
  have HT := Lib.hid (isText_any x hx0 hx1)
  have HC := Lib.hid (isCont_any x hx0 hx1)
  clear h
  obtain ⟨res, hres⟩ : ∃ res, p.item x = res := ⟨_, rfl⟩
  rw [hres]
  have HR := Lib.hid hres
  clear hres
  have K1 := Lib.hid (Keeps.refl [] w)
  have HX := Lib.hid hx
  have hxb : (x == 193) = false := by simpa using hx
  have HK2 := Lib.hid h2
  clear hx
  have hy1 : (x == 202) = false := by simp; omega
  have hy2 : (x == 203) = false := by simp; omega
  have h51 := h5.1
  have h52 := h5.2
  have hw1 : ¬ 199 ≤ x := by omega
  have hw2 : ¬ 212 ≤ x := by omega
  have hlt : ¬ x < 128 := by omega
  have hge : ¬ 224 ≤ x := by omega
  have hl6 : ¬ x < 160 := by omega
  have hl7 : ¬ x < 192 := by omega
  have hl8 : (x == 192) = false := by simp; omega
  have hl9 : ¬ x ≤ 195 := by omega
  have HM := Lib.hid (show p.item x = p.long x by
    unfold Pk.item
    rw [if_neg (show ¬ (p.c.done = true ∨ x = 193) by rw [hd]; simp; exact HX.out), if_neg h2, if_neg h3, if_neg h4, if_neg (show ¬ (isContB x = true ∧ p.c.full = true) by rw [hcb]; simp), if_neg (by omega), if_neg (by omega), if_neg (by omega), if_neg (by omega), if_neg (by omega), if_neg (by omega)])
  rcases (show p.c.atKey = false ∨ p.c.atKey = true ∧ isTextB x = true by
    cases hk : p.c.atKey <;> cases ht : isTextB x <;> simp_all) with hk | ⟨hk, ht⟩
  · clear h2
    go_enter Try.func31, Try.ntmps31
    go_wp2_with fail
    refine (HD.out w (Keeps.refl _ _)).mono ?_
    rintro e w' ⟨rfl, rfl⟩
    rw [hd]
    have HDD := Lib.hid hd
    clear hd
    go_wp2_with fail
    refine HA.out.mono ?_
    rintro e w' ⟨rfl, rfl⟩
    rw [hk]
    clear hk
    go_wp2_with fail
    go_wp2_with fail
    refine (HC.out w).mono ?_
    rintro e w' ⟨rfl, rfl⟩
    rw [hcb]
    go_wp2_with fail
    refine (long_any H.out.in_ x (by omega)).mono ?_
    rintro e w9 hg9
    skip
    obtain ⟨v9, rfl, hown9, hpost9⟩ := hg9
    obtain ⟨av9, cv9, rfl⟩ := hown9.shape
    have HOWN9 := Lib.hid hown9
    have HPOST9 := Lib.hid hpost9
    clear hown9 hpost9
    go_wp2_with fail
    go_ret
    rw [← HR.out, HM.out]
    exact PkGives.trans (K1.out.mono (by simp)) (fun i hi => Or.inl hi) ⟨_, rfl, HOWN9.out, HPOST9.out⟩
  · clear h2
    go_enter Try.func31, Try.ntmps31
    go_wp2_with fail
    refine (HD.out w (Keeps.refl _ _)).mono ?_
    rintro e w' ⟨rfl, rfl⟩
    rw [hd]
    have HDD := Lib.hid hd
    clear hd
    go_wp2_with fail
    refine HA.out.mono ?_
    rintro e w' ⟨rfl, rfl⟩
    rw [hk]
    clear hk
    go_wp2_with fail
    refine (HT.out w).mono ?_
    rintro e w' ⟨rfl, rfl⟩
    rw [ht]
    clear ht
    go_wp2_with fail
    go_wp2_with fail
    refine (HC.out w).mono ?_
    rintro e w' ⟨rfl, rfl⟩
    rw [hcb]
    go_wp2_with fail
    refine (long_any H.out.in_ x (by omega)).mono ?_
    rintro e w9 hg9
    skip
    obtain ⟨v9, rfl, hown9, hpost9⟩ := hg9
    obtain ⟨av9, cv9, rfl⟩ := hown9.shape
    have HOWN9 := Lib.hid hown9
    have HPOST9 := Lib.hid hpost9
    clear hown9 hpost9
    go_wp2_with fail
    go_ret
    rw [← HR.out, HM.out]
    exact PkGives.trans (K1.out.mono (by simp)) (fun i hi => Or.inl hi) ⟨_, rfl, HOWN9.out, HPOST9.out⟩

set_option maxHeartbeats 1600000 in
set_option maxRecDepth 100000 in
theorem item_long_b {N : Int} {w : World} {base b : Nat} {ov sv : Value} {p : Pk} (h : PkOk N w base b ov sv p) (x : Int) (hx0 : 0 ≤ x) (hx1 : x ≤ 255) (hd : p.c.done = false) (hx : ¬ x = 193) (h2 : ¬ (p.c.atKey = true ∧ isTextB x = false)) (h3 : ¬ (199 ≤ x ∧ x ≤ 201 ∨ 212 ≤ x ∧ x ≤ 216)) (h4 : ¬ (x = 202 ∨ x = 203)) (hcb : isContB x = false) (h5 : 204 ≤ x ∧ x ≤ 211) :
    Calls Try.prog 31 #[.pointer (some ⟨b, 0, none⟩), .int .u8 x] w (PkGives w base b ov sv (p.item x)) := by
  have hbl := h.in_.blk.lt
  have H := Lib.hid h
  have HD := Lib.hid (fun W (k : Keeps [] w W) => coreDone_any p.c W base b _ _ ov sv (h.core.keep0 k).in_)
  have HA := Lib.hid (atKey_any p.c w base b _ _ ov sv h.core.in_ h.core.opens (fun c hc => by have := h.core.parts c hc; have := h.core.big; omega))
  have HFU := Lib.hid (coreFull_any p.c w base b _ _ ov sv h.core.in_)
  have HFA := Lib.hid (fun e W (k : Keeps [] w W) => fail_gives e p.c W base b _ _ ov sv (h.core.keep0 k).in_)
  have HT := Lib.hid (isText_any x hx0 hx1)
  have HC := Lib.hid (isCont_any x hx0 hx1)
  clear h
  obtain ⟨res, hres⟩ : ∃ res, p.item x = res := ⟨_, rfl⟩
  rw [hres]
  have HR := Lib.hid hres
  clear hres
  have K1 := Lib.hid (Keeps.refl [] w)
  have HX := Lib.hid hx
  have hxb : (x == 193) = false := by simpa using hx
  have HK2 := Lib.hid h2
  clear hx
  have hy1 : (x == 202) = false := by simp; omega
  have hy2 : (x == 203) = false := by simp; omega
  have h51 := h5.1
  have h52 := h5.2
  have hw1 : 199 ≤ x := by omega
  have hw2 : ¬ x ≤ 201 := by omega
  have hw3 : ¬ 212 ≤ x := by omega
  have hlt : ¬ x < 128 := by omega
  have hge : ¬ 224 ≤ x := by omega
  have hl6 : ¬ x < 160 := by omega
  have hl7 : ¬ x < 192 := by omega
  have hl8 : (x == 192) = false := by simp; omega
  have hl9 : ¬ x ≤ 195 := by omega
  have HM := Lib.hid (show p.item x = p.long x by
    unfold Pk.item
    rw [if_neg (show ¬ (p.c.done = true ∨ x = 193) by rw [hd]; simp; exact HX.out), if_neg h2, if_neg h3, if_neg h4, if_neg (show ¬ (isContB x = true ∧ p.c.full = true) by rw [hcb]; simp), if_neg (by omega), if_neg (by omega), if_neg (by omega), if_neg (by omega), if_neg (by omega), if_neg (by omega)])
  rcases (show p.c.atKey = false ∨ p.c.atKey = true ∧ isTextB x = true by
    cases hk : p.c.atKey <;> cases ht : isTextB x <;> simp_all) with hk | ⟨hk, ht⟩
  · clear h2
    go_enter Try.func31, Try.ntmps31
    go_wp2_with fail
    refine (HD.out w (Keeps.refl _ _)).mono ?_
    rintro e w' ⟨rfl, rfl⟩
    rw [hd]
    have HDD := Lib.hid hd
    clear hd
    go_wp2_with fail
    refine HA.out.mono ?_
    rintro e w' ⟨rfl, rfl⟩
    rw [hk]
    clear hk
    go_wp2_with fail
    go_wp2_with fail
    refine (HC.out w).mono ?_
    rintro e w' ⟨rfl, rfl⟩
    rw [hcb]
    go_wp2_with fail
    refine (long_any H.out.in_ x (by omega)).mono ?_
    rintro e w9 hg9
    skip
    obtain ⟨v9, rfl, hown9, hpost9⟩ := hg9
    obtain ⟨av9, cv9, rfl⟩ := hown9.shape
    have HOWN9 := Lib.hid hown9
    have HPOST9 := Lib.hid hpost9
    clear hown9 hpost9
    go_wp2_with fail
    go_ret
    rw [← HR.out, HM.out]
    exact PkGives.trans (K1.out.mono (by simp)) (fun i hi => Or.inl hi) ⟨_, rfl, HOWN9.out, HPOST9.out⟩
  · clear h2
    go_enter Try.func31, Try.ntmps31
    go_wp2_with fail
    refine (HD.out w (Keeps.refl _ _)).mono ?_
    rintro e w' ⟨rfl, rfl⟩
    rw [hd]
    have HDD := Lib.hid hd
    clear hd
    go_wp2_with fail
    refine HA.out.mono ?_
    rintro e w' ⟨rfl, rfl⟩
    rw [hk]
    clear hk
    go_wp2_with fail
    refine (HT.out w).mono ?_
    rintro e w' ⟨rfl, rfl⟩
    rw [ht]
    clear ht
    go_wp2_with fail
    go_wp2_with fail
    refine (HC.out w).mono ?_
    rintro e w' ⟨rfl, rfl⟩
    rw [hcb]
    go_wp2_with fail
    refine (long_any H.out.in_ x (by omega)).mono ?_
    rintro e w9 hg9
    skip
    obtain ⟨v9, rfl, hown9, hpost9⟩ := hg9
    obtain ⟨av9, cv9, rfl⟩ := hown9.shape
    have HOWN9 := Lib.hid hown9
    have HPOST9 := Lib.hid hpost9
    clear hown9 hpost9
    go_wp2_with fail
    go_ret
    rw [← HR.out, HM.out]
    exact PkGives.trans (K1.out.mono (by simp)) (fun i hi => Or.inl hi) ⟨_, rfl, HOWN9.out, HPOST9.out⟩

set_option maxHeartbeats 1600000 in
set_option maxRecDepth 100000 in
theorem item_long_c {N : Int} {w : World} {base b : Nat} {ov sv : Value} {p : Pk} (h : PkOk N w base b ov sv p) (x : Int) (hx0 : 0 ≤ x) (hx1 : x ≤ 255) (hd : p.c.done = false) (hx : ¬ x = 193) (h2 : ¬ (p.c.atKey = true ∧ isTextB x = false)) (h3 : ¬ (199 ≤ x ∧ x ≤ 201 ∨ 212 ≤ x ∧ x ≤ 216)) (h4 : ¬ (x = 202 ∨ x = 203)) (hcb : isContB x = false) (h5 : 217 ≤ x ∧ x ≤ 219) :
    Calls Try.prog 31 #[.pointer (some ⟨b, 0, none⟩), .int .u8 x] w (PkGives w base b ov sv (p.item x)) := by
  have hbl := h.in_.blk.lt
  have H := Lib.hid h
  have HD := Lib.hid (fun W (k : Keeps [] w W) => coreDone_any p.c W base b _ _ ov sv (h.core.keep0 k).in_)
  have HA := Lib.hid (atKey_any p.c w base b _ _ ov sv h.core.in_ h.core.opens (fun c hc => by have := h.core.parts c hc; have := h.core.big; omega))
  have HFU := Lib.hid (coreFull_any p.c w base b _ _ ov sv h.core.in_)
  have HFA := Lib.hid (fun e W (k : Keeps [] w W) => fail_gives e p.c W base b _ _ ov sv (h.core.keep0 k).in_)
  have HT := Lib.hid (isText_any x hx0 hx1)
  have HC := Lib.hid (isCont_any x hx0 hx1)
  clear h
  obtain ⟨res, hres⟩ : ∃ res, p.item x = res := ⟨_, rfl⟩
  rw [hres]
  have HR := Lib.hid hres
  clear hres
  have K1 := Lib.hid (Keeps.refl [] w)
  have HX := Lib.hid hx
  have hxb : (x == 193) = false := by simpa using hx
  have HK2 := Lib.hid h2
  clear hx
  have hy1 : (x == 202) = false := by simp; omega
  have hy2 : (x == 203) = false := by simp; omega
  have h51 := h5.1
  have h52 := h5.2
  have hw1 : 199 ≤ x := by omega
  have hw2 : ¬ x ≤ 201 := by omega
  have hw3 : 212 ≤ x := by omega
  have hw4 : ¬ x ≤ 216 := by omega
  have hlt : ¬ x < 128 := by omega
  have hge : ¬ 224 ≤ x := by omega
  have hl6 : ¬ x < 160 := by omega
  have hl7 : ¬ x < 192 := by omega
  have hl8 : (x == 192) = false := by simp; omega
  have hl9 : ¬ x ≤ 195 := by omega
  have HM := Lib.hid (show p.item x = p.long x by
    unfold Pk.item
    rw [if_neg (show ¬ (p.c.done = true ∨ x = 193) by rw [hd]; simp; exact HX.out), if_neg h2, if_neg h3, if_neg h4, if_neg (show ¬ (isContB x = true ∧ p.c.full = true) by rw [hcb]; simp), if_neg (by omega), if_neg (by omega), if_neg (by omega), if_neg (by omega), if_neg (by omega), if_neg (by omega)])
  rcases (show p.c.atKey = false ∨ p.c.atKey = true ∧ isTextB x = true by
    cases hk : p.c.atKey <;> cases ht : isTextB x <;> simp_all) with hk | ⟨hk, ht⟩
  · clear h2
    go_enter Try.func31, Try.ntmps31
    go_wp2_with fail
    refine (HD.out w (Keeps.refl _ _)).mono ?_
    rintro e w' ⟨rfl, rfl⟩
    rw [hd]
    have HDD := Lib.hid hd
    clear hd
    go_wp2_with fail
    refine HA.out.mono ?_
    rintro e w' ⟨rfl, rfl⟩
    rw [hk]
    clear hk
    go_wp2_with fail
    go_wp2_with fail
    refine (HC.out w).mono ?_
    rintro e w' ⟨rfl, rfl⟩
    rw [hcb]
    go_wp2_with fail
    refine (long_any H.out.in_ x (by omega)).mono ?_
    rintro e w9 hg9
    skip
    obtain ⟨v9, rfl, hown9, hpost9⟩ := hg9
    obtain ⟨av9, cv9, rfl⟩ := hown9.shape
    have HOWN9 := Lib.hid hown9
    have HPOST9 := Lib.hid hpost9
    clear hown9 hpost9
    go_wp2_with fail
    go_ret
    rw [← HR.out, HM.out]
    exact PkGives.trans (K1.out.mono (by simp)) (fun i hi => Or.inl hi) ⟨_, rfl, HOWN9.out, HPOST9.out⟩
  · clear h2
    go_enter Try.func31, Try.ntmps31
    go_wp2_with fail
    refine (HD.out w (Keeps.refl _ _)).mono ?_
    rintro e w' ⟨rfl, rfl⟩
    rw [hd]
    have HDD := Lib.hid hd
    clear hd
    go_wp2_with fail
    refine HA.out.mono ?_
    rintro e w' ⟨rfl, rfl⟩
    rw [hk]
    clear hk
    go_wp2_with fail
    refine (HT.out w).mono ?_
    rintro e w' ⟨rfl, rfl⟩
    rw [ht]
    clear ht
    go_wp2_with fail
    go_wp2_with fail
    refine (HC.out w).mono ?_
    rintro e w' ⟨rfl, rfl⟩
    rw [hcb]
    go_wp2_with fail
    refine (long_any H.out.in_ x (by omega)).mono ?_
    rintro e w9 hg9
    skip
    obtain ⟨v9, rfl, hown9, hpost9⟩ := hg9
    obtain ⟨av9, cv9, rfl⟩ := hown9.shape
    have HOWN9 := Lib.hid hown9
    have HPOST9 := Lib.hid hpost9
    clear hown9 hpost9
    go_wp2_with fail
    go_ret
    rw [← HR.out, HM.out]
    exact PkGives.trans (K1.out.mono (by simp)) (fun i hi => Or.inl hi) ⟨_, rfl, HOWN9.out, HPOST9.out⟩

set_option maxHeartbeats 1600000 in
set_option maxRecDepth 100000 in
theorem item_long_d {N : Int} {w : World} {base b : Nat} {ov sv : Value} {p : Pk} (h : PkOk N w base b ov sv p) (x : Int) (hx0 : 0 ≤ x) (hx1 : x ≤ 255) (hd : p.c.done = false) (hx : ¬ x = 193) (h2 : ¬ (p.c.atKey = true ∧ isTextB x = false)) (h3 : ¬ (199 ≤ x ∧ x ≤ 201 ∨ 212 ≤ x ∧ x ≤ 216)) (h4 : ¬ (x = 202 ∨ x = 203)) (hcb : isContB x = true) (hfu : p.c.full = false) (h5 : 220 ≤ x) (h6 : x ≤ 223) :
    Calls Try.prog 31 #[.pointer (some ⟨b, 0, none⟩), .int .u8 x] w (PkGives w base b ov sv (p.item x)) := by
  have hbl := h.in_.blk.lt
  have H := Lib.hid h
  have HD := Lib.hid (fun W (k : Keeps [] w W) => coreDone_any p.c W base b _ _ ov sv (h.core.keep0 k).in_)
  have HA := Lib.hid (atKey_any p.c w base b _ _ ov sv h.core.in_ h.core.opens (fun c hc => by have := h.core.parts c hc; have := h.core.big; omega))
  have HFU := Lib.hid (coreFull_any p.c w base b _ _ ov sv h.core.in_)
  have HFA := Lib.hid (fun e W (k : Keeps [] w W) => fail_gives e p.c W base b _ _ ov sv (h.core.keep0 k).in_)
  have HT := Lib.hid (isText_any x hx0 hx1)
  have HC := Lib.hid (isCont_any x hx0 hx1)
  clear h
  obtain ⟨res, hres⟩ : ∃ res, p.item x = res := ⟨_, rfl⟩
  rw [hres]
  have HR := Lib.hid hres
  clear hres
  have K1 := Lib.hid (Keeps.refl [] w)
  have HX := Lib.hid hx
  have hxb : (x == 193) = false := by simpa using hx
  have HK2 := Lib.hid h2
  clear hx
  have hy1 : (x == 202) = false := by simp; omega
  have hy2 : (x == 203) = false := by simp; omega
  have hw1 : 199 ≤ x := by omega
  have hw2 : ¬ x ≤ 201 := by omega
  have hw3 : 212 ≤ x := by omega
  have hw4 : ¬ x ≤ 216 := by omega
  have hlt : ¬ x < 128 := by omega
  have hge : ¬ 224 ≤ x := by omega
  have hl6 : ¬ x < 160 := by omega
  have hl7 : ¬ x < 192 := by omega
  have hl8 : (x == 192) = false := by simp; omega
  have hl9 : ¬ x ≤ 195 := by omega
  have HM := Lib.hid (show p.item x = p.long x by
    unfold Pk.item
    rw [if_neg (show ¬ (p.c.done = true ∨ x = 193) by rw [hd]; simp; exact HX.out), if_neg h2, if_neg h3, if_neg h4, if_neg (show ¬ (isContB x = true ∧ p.c.full = true) by rw [hfu]; simp), if_neg (by omega), if_neg (by omega), if_neg (by omega), if_neg (by omega), if_neg (by omega), if_neg (by omega)])
  rcases (show p.c.atKey = false ∨ p.c.atKey = true ∧ isTextB x = true by
    cases hk : p.c.atKey <;> cases ht : isTextB x <;> simp_all) with hk | ⟨hk, ht⟩
  · clear h2
    go_enter Try.func31, Try.ntmps31
    go_wp2_with fail
    refine (HD.out w (Keeps.refl _ _)).mono ?_
    rintro e w' ⟨rfl, rfl⟩
    rw [hd]
    have HDD := Lib.hid hd
    clear hd
    go_wp2_with fail
    refine HA.out.mono ?_
    rintro e w' ⟨rfl, rfl⟩
    rw [hk]
    clear hk
    go_wp2_with fail
    go_wp2_with fail
    refine (HC.out w).mono ?_
    rintro e w' ⟨rfl, rfl⟩
    rw [hcb]
    go_wp2_with fail
    refine HFU.out.mono ?_
    rintro e w1 ⟨rfl, k1⟩
    have K1 := Lib.hid k1
    rw [hfu]
    clear k1
    go_wp2_with fail
    refine (long_any (CoreIn.keep0 H.out.in_ K1.out) x (by omega)).mono ?_
    rintro e w9 hg9
    skip
    obtain ⟨v9, rfl, hown9, hpost9⟩ := hg9
    obtain ⟨av9, cv9, rfl⟩ := hown9.shape
    have HOWN9 := Lib.hid hown9
    have HPOST9 := Lib.hid hpost9
    clear hown9 hpost9
    go_wp2_with fail
    go_ret
    rw [← HR.out, HM.out]
    exact PkGives.trans (K1.out.mono (by simp)) (fun i hi => Or.inl hi) ⟨_, rfl, HOWN9.out, HPOST9.out⟩
  · clear h2
    go_enter Try.func31, Try.ntmps31
    go_wp2_with fail
    refine (HD.out w (Keeps.refl _ _)).mono ?_
    rintro e w' ⟨rfl, rfl⟩
    rw [hd]
    have HDD := Lib.hid hd
    clear hd
    go_wp2_with fail
    refine HA.out.mono ?_
    rintro e w' ⟨rfl, rfl⟩
    rw [hk]
    clear hk
    go_wp2_with fail
    refine (HT.out w).mono ?_
    rintro e w' ⟨rfl, rfl⟩
    rw [ht]
    clear ht
    go_wp2_with fail
    go_wp2_with fail
    refine (HC.out w).mono ?_
    rintro e w' ⟨rfl, rfl⟩
    rw [hcb]
    go_wp2_with fail
    refine HFU.out.mono ?_
    rintro e w1 ⟨rfl, k1⟩
    have K1 := Lib.hid k1
    rw [hfu]
    clear k1
    go_wp2_with fail
    refine (long_any (CoreIn.keep0 H.out.in_ K1.out) x (by omega)).mono ?_
    rintro e w9 hg9
    skip
    obtain ⟨v9, rfl, hown9, hpost9⟩ := hg9
    obtain ⟨av9, cv9, rfl⟩ := hown9.shape
    have HOWN9 := Lib.hid hown9
    have HPOST9 := Lib.hid hpost9
    clear hown9 hpost9
    go_wp2_with fail
    go_ret
    rw [← HR.out, HM.out]
    exact PkGives.trans (K1.out.mono (by simp)) (fun i hi => Or.inl hi) ⟨_, rfl, HOWN9.out, HPOST9.out⟩

theorem item_any {N : Int} {w : World} {base b : Nat} {ov sv : Value} {p : Pk} (h : PkOk N w base b ov sv p) (x : Int) (hx0 : 0 ≤ x) (hx1 : x ≤ 255) :
    Calls Try.prog 31 #[.pointer (some ⟨b, 0, none⟩), .int .u8 x] w (PkGives w base b ov sv (p.item x)) := by
  cases hd : p.c.done with
  | true => exact item_done h x hx0 hx1 hd
  | false =>
  by_cases hx : x = 193
  · exact item_193 h x hx0 hx1 hd hx
  by_cases h2 : p.c.atKey = true ∧ isTextB x = false
  · exact item_key h x hx0 hx1 hd hx h2.1 h2.2
  by_cases h3 : 199 ≤ x ∧ x ≤ 201 ∨ 212 ≤ x ∧ x ≤ 216
  · rcases h3 with h3 | h3
    · exact item_ext1 h x hx0 hx1 hd hx h2 h3
    · exact item_ext2 h x hx0 hx1 hd hx h2 h3
  by_cases h4 : x = 202 ∨ x = 203
  · rcases h4 with h4 | h4
    · exact item_float202 h x hx0 hx1 hd hx h2 h4
    · exact item_float203 h x hx0 hx1 hd hx h2 h4
  cases hcb : isContB x with
  | true =>
    have hc2 : 128 ≤ x ∧ x ≤ 159 ∨ 220 ≤ x ∧ x ≤ 223 := by simpa [isContB] using hcb
    cases hfu : p.c.full with
    | true =>
      rcases hc2 with hc2 | hc2
      · exact item_full_a h x hx0 hx1 hd hx h2 h3 h4 hcb hfu hc2.2
      · exact item_full_b h x hx0 hx1 hd hx h2 h3 h4 hcb hfu hc2.1
    | false =>
      rcases hc2 with hc2 | hc2
      · by_cases h6 : x < 144
        · exact item_map h x hx0 hx1 hd hx h2 h3 h4 hcb hfu hc2.1 h6
        · exact item_arr h x hx0 hx1 hd hx h2 h3 h4 hcb hfu (by omega) (by omega)
      · exact item_long_d h x hx0 hx1 hd hx h2 h3 h4 hcb hfu hc2.1 hc2.2
  | false =>
    have hc2 : ¬ (128 ≤ x ∧ x ≤ 159 ∨ 220 ≤ x ∧ x ≤ 223) := by simpa [isContB] using hcb
    by_cases a1 : x < 128
    · exact item_pos h x hx0 hx1 hd hx h2 h3 h4 hcb a1
    by_cases a2 : 224 ≤ x
    · exact item_neg h x hx0 hx1 hd hx h2 h3 h4 hcb a2
    by_cases a3 : x < 192
    · exact item_str h x hx0 hx1 hd hx h2 h3 h4 hcb (by omega) a3
    by_cases a4 : x = 192
    · exact item_null h x hx0 hx1 hd hx h2 h3 h4 hcb a4
    by_cases a5 : x = 194
    · exact item_bool194 h x hx0 hx1 hd hx h2 h3 h4 hcb a5
    by_cases a6 : x = 195
    · exact item_bool195 h x hx0 hx1 hd hx h2 h3 h4 hcb a6
    by_cases a7 : x ≤ 198
    · exact item_long_a h x hx0 hx1 hd hx h2 h3 h4 hcb (by omega)
    by_cases a8 : x ≤ 211
    · exact item_long_b h x hx0 hx1 hd hx h2 h3 h4 hcb (by omega)
    · exact item_long_c h x hx0 hx1 hd hx h2 h3 h4 hcb (by omega)
end Go.Proofs.Ytmcbdkhlbmhfeaa
