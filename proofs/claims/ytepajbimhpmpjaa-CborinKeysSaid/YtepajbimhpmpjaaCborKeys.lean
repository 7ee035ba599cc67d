/-
  CborinKeys' walk.
-/
import Derived.Test.YtepajbimhpmpjaaCborOthers
namespace Go.Tru
def keySt : Bool → Cb
  | false => ⟨⟨4, [⟨true, 1, 0⟩], false, 0, false, false, 0, [], Chk.zero⟩, Hd.zero, false⟩
  | true => ⟨⟨4, [⟨true, -1, 0⟩], false, 0, false, false, 0, [], Chk.zero⟩, Hd.zero, false⟩
theorem keySt_f : (Cb.new 4).step 161 = ([evMap 1], keySt false) := by rfl
theorem keySt_t : (Cb.new 4).step 191 = ([evMap (-1)], keySt true) := by rfl
theorem lacksValue : (cborAll [191, 97, 97, 255] 4).2 = 2 := by kernel_rfl

/-- at a key -/
structure Keyed (p : Cb) : Prop where
  e : p.c.e = 0
  lack : p.c.lack = 0
  begun : p.begun = false
  chunks : p.c.chunks = false
  done : p.c.done = false
  key : p.c.atKey = true
  s : p.c.s = []
theorem keyed_f : Keyed (keySt false) := ⟨rfl, rfl, rfl, rfl, rfl, rfl, rfl⟩
theorem keyed_t : Keyed (keySt true) := ⟨rfl, rfl, rfl, rfl, rfl, rfl, rfl⟩
theorem Keyed.item {p : Cb} (h : Keyed p) (x : Int) : p.step x = p.item x := by
  unfold Cb.step
  rw [if_neg (by simp [h.e]), if_neg (by simp [h.lack]), if_neg (by simp [h.begun]), if_neg (by simp [h.chunks])]
theorem Keyed.low {p : Cb} (h : Keyed p) {x : Int} (hl : 28 ≤ x % 32 ∧ x % 32 < 31) : (p.step x).2.c.e = 2 := by
  rw [h.item]
  unfold Cb.item
  rw [if_neg (by simp [h.done]), if_pos (Or.inl hl)]
  rfl
theorem Keyed.other {p : Cb} (h : Keyed p) {x : Int} (hm : x / 32 ≠ 3) (hl : x % 32 < 28) : (p.step x).2.c.e = 8 := by
  rw [h.item]
  unfold Cb.item
  rw [if_neg (by simp [h.done]), if_neg (by omega), if_neg (by omega), if_pos (Or.inl ⟨h.key, hm⟩)]
  rfl
theorem Keyed.text {p : Cb} (h : Keyed p) {x : Int} (hm : x / 32 = 3) (hl : x % 32 < 28) : (p.step x).2.c.e = 0 := by
  rw [h.item]
  unfold Cb.item
  rw [if_neg (by simp [h.done]), if_neg (by omega), if_neg (by omega), if_neg (by omega), if_neg (by omega), if_neg (by omega)]
  unfold Cb.first
  split
  · unfold Cb.told
    rw [if_neg (by omega), if_pos (by omega), if_neg (by decide)]
    show (p.c.length (decide (x / 32 = 3)) (x % 32)).2.e = 0
    unfold Core.length
    rw [h.s, if_neg (by simp; omega)]
    simp only []
    split
    · exact h.e
    · exact h.e
  exact h.e
end Go.Tru
namespace Go.Proofs.Ytepajbimhpmpjaa
open Go.RowKit Go.Tru

set_option maxHeartbeats 1600000 in
set_option maxRecDepth 100000 in
theorem ckey_f_low28 (x : Int) (hx0 : 0 ≤ x) (hx1 : x ≤ 255) (hl : x % 32 = 28) (w : World) :
    Calls Try.prog 8 #[.int .u8 x, .bool false] w fun r w' => r = .returned (.bool true) ∧ Keeps [] w w' := by
  have hand := pk_and31 hx0 hx1
  rw [hl] at hand
  have HE := Lib.hid (show ((keySt false).step x).2.c.e = 2 from keyed_f.low (by omega))
  go_enter Try.func8, Try.ntmps8
  go_wp2_with fail
  refine (calive_any w).mono ?_
  rintro e w1 ⟨rfl, k1⟩
  have K1 := Lib.hid k1
  have z1 := k1.size
  clear k1
  go_wp2_with fail
  refine (cpnew_yes 4 (by omega) w1).mono ?_
  rintro e w2 ⟨rfl, hin2, k2⟩
  have HIN2 := Lib.hid hin2
  have K2 := Lib.hid (K1.out.trans k2)
  have z2 := k2.size
  clear hin2 k2
  go_wp2_with fail
  have hst := cstepped (N := 0) (w0 := w) ⟨HIN2.out, Cb.fit_new (by omega), by omega, z2⟩ 161 (by omega) (by omega) z1 K2.out (by omega)
  rw [keySt_f] at hst
  refine hst.mono ?_
  clear hst
  rintro e w3 ⟨v3, ov3, sv3, rfl, hown3, hok3, k3, z3⟩
  have HOK3 := Lib.hid (show CbOk _ _ _ _ _ _ (keySt false) from hok3)
  have K3 := Lib.hid k3
  clear hown3 hok3 k3
  simp only [keySt]
  go_wp2_with fail
  have hst := cstepped HOK3.out x (by omega) (by omega) z1 K3.out (by omega)
  rw [HE.out] at hst
  refine hst.mono ?_
  clear hst
  rintro e w4 ⟨v4, ov4, sv4, rfl, hown4, hok4, k4, z4⟩
  obtain ⟨a4, c4, rfl⟩ := hown4.shape
  have K4 := Lib.hid k4
  clear hown4 hok4 k4
  go_wp2_with fail
  have hall := cborAll_any ⟨#[191, 97, 97, 255]⟩ 4 w4 (by decide)
  rw [show (cborAll (⟨#[191, 97, 97, 255]⟩ : ByteArray).data.toList 4).2 = 2 from lacksValue] at hall
  refine hall.mono ?_
  clear hall
  rintro e w5 ⟨v5, rfl, hown5, k5⟩
  obtain ⟨a5, c5, rfl⟩ := hown5.shape
  have K5 := Lib.hid (K4.out.trans k5)
  clear hown5 k5
  go_wp2_with fail
  go_ret
  exact ⟨rfl, K5.out⟩

set_option maxHeartbeats 1600000 in
set_option maxRecDepth 100000 in
theorem ckey_f_low29 (x : Int) (hx0 : 0 ≤ x) (hx1 : x ≤ 255) (hl : x % 32 = 29) (w : World) :
    Calls Try.prog 8 #[.int .u8 x, .bool false] w fun r w' => r = .returned (.bool true) ∧ Keeps [] w w' := by
  have hand := pk_and31 hx0 hx1
  rw [hl] at hand
  have HE := Lib.hid (show ((keySt false).step x).2.c.e = 2 from keyed_f.low (by omega))
  go_enter Try.func8, Try.ntmps8
  go_wp2_with fail
  refine (calive_any w).mono ?_
  rintro e w1 ⟨rfl, k1⟩
  have K1 := Lib.hid k1
  have z1 := k1.size
  clear k1
  go_wp2_with fail
  refine (cpnew_yes 4 (by omega) w1).mono ?_
  rintro e w2 ⟨rfl, hin2, k2⟩
  have HIN2 := Lib.hid hin2
  have K2 := Lib.hid (K1.out.trans k2)
  have z2 := k2.size
  clear hin2 k2
  go_wp2_with fail
  have hst := cstepped (N := 0) (w0 := w) ⟨HIN2.out, Cb.fit_new (by omega), by omega, z2⟩ 161 (by omega) (by omega) z1 K2.out (by omega)
  rw [keySt_f] at hst
  refine hst.mono ?_
  clear hst
  rintro e w3 ⟨v3, ov3, sv3, rfl, hown3, hok3, k3, z3⟩
  have HOK3 := Lib.hid (show CbOk _ _ _ _ _ _ (keySt false) from hok3)
  have K3 := Lib.hid k3
  clear hown3 hok3 k3
  simp only [keySt]
  go_wp2_with fail
  have hst := cstepped HOK3.out x (by omega) (by omega) z1 K3.out (by omega)
  rw [HE.out] at hst
  refine hst.mono ?_
  clear hst
  rintro e w4 ⟨v4, ov4, sv4, rfl, hown4, hok4, k4, z4⟩
  obtain ⟨a4, c4, rfl⟩ := hown4.shape
  have K4 := Lib.hid k4
  clear hown4 hok4 k4
  go_wp2_with fail
  have hall := cborAll_any ⟨#[191, 97, 97, 255]⟩ 4 w4 (by decide)
  rw [show (cborAll (⟨#[191, 97, 97, 255]⟩ : ByteArray).data.toList 4).2 = 2 from lacksValue] at hall
  refine hall.mono ?_
  clear hall
  rintro e w5 ⟨v5, rfl, hown5, k5⟩
  obtain ⟨a5, c5, rfl⟩ := hown5.shape
  have K5 := Lib.hid (K4.out.trans k5)
  clear hown5 k5
  go_wp2_with fail
  go_ret
  exact ⟨rfl, K5.out⟩

set_option maxHeartbeats 1600000 in
set_option maxRecDepth 100000 in
theorem ckey_f_low30 (x : Int) (hx0 : 0 ≤ x) (hx1 : x ≤ 255) (hl : x % 32 = 30) (w : World) :
    Calls Try.prog 8 #[.int .u8 x, .bool false] w fun r w' => r = .returned (.bool true) ∧ Keeps [] w w' := by
  have hand := pk_and31 hx0 hx1
  rw [hl] at hand
  have HE := Lib.hid (show ((keySt false).step x).2.c.e = 2 from keyed_f.low (by omega))
  go_enter Try.func8, Try.ntmps8
  go_wp2_with fail
  refine (calive_any w).mono ?_
  rintro e w1 ⟨rfl, k1⟩
  have K1 := Lib.hid k1
  have z1 := k1.size
  clear k1
  go_wp2_with fail
  refine (cpnew_yes 4 (by omega) w1).mono ?_
  rintro e w2 ⟨rfl, hin2, k2⟩
  have HIN2 := Lib.hid hin2
  have K2 := Lib.hid (K1.out.trans k2)
  have z2 := k2.size
  clear hin2 k2
  go_wp2_with fail
  have hst := cstepped (N := 0) (w0 := w) ⟨HIN2.out, Cb.fit_new (by omega), by omega, z2⟩ 161 (by omega) (by omega) z1 K2.out (by omega)
  rw [keySt_f] at hst
  refine hst.mono ?_
  clear hst
  rintro e w3 ⟨v3, ov3, sv3, rfl, hown3, hok3, k3, z3⟩
  have HOK3 := Lib.hid (show CbOk _ _ _ _ _ _ (keySt false) from hok3)
  have K3 := Lib.hid k3
  clear hown3 hok3 k3
  simp only [keySt]
  go_wp2_with fail
  have hst := cstepped HOK3.out x (by omega) (by omega) z1 K3.out (by omega)
  rw [HE.out] at hst
  refine hst.mono ?_
  clear hst
  rintro e w4 ⟨v4, ov4, sv4, rfl, hown4, hok4, k4, z4⟩
  obtain ⟨a4, c4, rfl⟩ := hown4.shape
  have K4 := Lib.hid k4
  clear hown4 hok4 k4
  go_wp2_with fail
  have hall := cborAll_any ⟨#[191, 97, 97, 255]⟩ 4 w4 (by decide)
  rw [show (cborAll (⟨#[191, 97, 97, 255]⟩ : ByteArray).data.toList 4).2 = 2 from lacksValue] at hall
  refine hall.mono ?_
  clear hall
  rintro e w5 ⟨v5, rfl, hown5, k5⟩
  obtain ⟨a5, c5, rfl⟩ := hown5.shape
  have K5 := Lib.hid (K4.out.trans k5)
  clear hown5 k5
  go_wp2_with fail
  go_ret
  exact ⟨rfl, K5.out⟩

set_option maxHeartbeats 1600000 in
set_option maxRecDepth 100000 in
theorem ckey_f_other (x : Int) (hx0 : 0 ≤ x) (hx1 : x ≤ 255) (hm : x / 32 ≠ 3) (hl : x % 32 < 28) (w : World) :
    Calls Try.prog 8 #[.int .u8 x, .bool false] w fun r w' => r = .returned (.bool true) ∧ Keeps [] w w' := by
  have hand := pk_and31 hx0 hx1
  have hm3 : (x / 32 != 3) = true := by simpa using hm
  have hl1 : ¬ 28 ≤ x % 32 := by omega
  have hl2 : (x % 32 == 31) = false := by simp; omega
  have hxb : (x == 255) = false := by simp; omega
  have HE := Lib.hid (show ((keySt false).step x).2.c.e = 8 from keyed_f.other hm (by omega))
  go_enter Try.func8, Try.ntmps8
  go_wp2_with fail
  refine (calive_any w).mono ?_
  rintro e w1 ⟨rfl, k1⟩
  have K1 := Lib.hid k1
  have z1 := k1.size
  clear k1
  go_wp2_with fail
  refine (cpnew_yes 4 (by omega) w1).mono ?_
  rintro e w2 ⟨rfl, hin2, k2⟩
  have HIN2 := Lib.hid hin2
  have K2 := Lib.hid (K1.out.trans k2)
  have z2 := k2.size
  clear hin2 k2
  go_wp2_with fail
  have hst := cstepped (N := 0) (w0 := w) ⟨HIN2.out, Cb.fit_new (by omega), by omega, z2⟩ 161 (by omega) (by omega) z1 K2.out (by omega)
  rw [keySt_f] at hst
  refine hst.mono ?_
  clear hst
  rintro e w3 ⟨v3, ov3, sv3, rfl, hown3, hok3, k3, z3⟩
  have HOK3 := Lib.hid (show CbOk _ _ _ _ _ _ (keySt false) from hok3)
  have K3 := Lib.hid k3
  clear hown3 hok3 k3
  simp only [keySt]
  go_wp2_with fail
  have hst := cstepped HOK3.out x (by omega) (by omega) z1 K3.out (by omega)
  rw [HE.out] at hst
  refine hst.mono ?_
  clear hst
  rintro e w4 ⟨v4, ov4, sv4, rfl, hown4, hok4, k4, z4⟩
  obtain ⟨a4, c4, rfl⟩ := hown4.shape
  have K4 := Lib.hid k4
  clear hown4 hok4 k4
  go_wp2_with fail
  have hall := cborAll_any ⟨#[191, 97, 97, 255]⟩ 4 w4 (by decide)
  rw [show (cborAll (⟨#[191, 97, 97, 255]⟩ : ByteArray).data.toList 4).2 = 2 from lacksValue] at hall
  refine hall.mono ?_
  clear hall
  rintro e w5 ⟨v5, rfl, hown5, k5⟩
  obtain ⟨a5, c5, rfl⟩ := hown5.shape
  have K5 := Lib.hid (K4.out.trans k5)
  clear hown5 k5
  go_wp2_with fail
  go_ret
  exact ⟨rfl, K5.out⟩

set_option maxHeartbeats 1600000 in
set_option maxRecDepth 100000 in
theorem ckey_f_text (x : Int) (hx0 : 0 ≤ x) (hx1 : x ≤ 255) (hm : x / 32 = 3) (hl : x % 32 < 28) (w : World) :
    Calls Try.prog 8 #[.int .u8 x, .bool false] w fun r w' => r = .returned (.bool true) ∧ Keeps [] w w' := by
  have hand := pk_and31 hx0 hx1
  have hl1 : ¬ 28 ≤ x % 32 := by omega
  have hl2 : (x % 32 == 31) = false := by simp; omega
  have hxb : (x == 255) = false := by simp; omega
  have HE := Lib.hid (show ((keySt false).step x).2.c.e = 0 from keyed_f.text hm (by omega))
  go_enter Try.func8, Try.ntmps8
  go_wp2_with fail
  refine (calive_any w).mono ?_
  rintro e w1 ⟨rfl, k1⟩
  have K1 := Lib.hid k1
  have z1 := k1.size
  clear k1
  go_wp2_with fail
  refine (cpnew_yes 4 (by omega) w1).mono ?_
  rintro e w2 ⟨rfl, hin2, k2⟩
  have HIN2 := Lib.hid hin2
  have K2 := Lib.hid (K1.out.trans k2)
  have z2 := k2.size
  clear hin2 k2
  go_wp2_with fail
  have hst := cstepped (N := 0) (w0 := w) ⟨HIN2.out, Cb.fit_new (by omega), by omega, z2⟩ 161 (by omega) (by omega) z1 K2.out (by omega)
  rw [keySt_f] at hst
  refine hst.mono ?_
  clear hst
  rintro e w3 ⟨v3, ov3, sv3, rfl, hown3, hok3, k3, z3⟩
  have HOK3 := Lib.hid (show CbOk _ _ _ _ _ _ (keySt false) from hok3)
  have K3 := Lib.hid k3
  clear hown3 hok3 k3
  simp only [keySt]
  go_wp2_with fail
  have hst := cstepped HOK3.out x (by omega) (by omega) z1 K3.out (by omega)
  rw [HE.out] at hst
  refine hst.mono ?_
  clear hst
  rintro e w4 ⟨v4, ov4, sv4, rfl, hown4, hok4, k4, z4⟩
  obtain ⟨a4, c4, rfl⟩ := hown4.shape
  have K4 := Lib.hid k4
  clear hown4 hok4 k4
  go_wp2_with fail
  have hall := cborAll_any ⟨#[191, 97, 97, 255]⟩ 4 w4 (by decide)
  rw [show (cborAll (⟨#[191, 97, 97, 255]⟩ : ByteArray).data.toList 4).2 = 2 from lacksValue] at hall
  refine hall.mono ?_
  clear hall
  rintro e w5 ⟨v5, rfl, hown5, k5⟩
  obtain ⟨a5, c5, rfl⟩ := hown5.shape
  have K5 := Lib.hid (K4.out.trans k5)
  clear hown5 k5
  go_wp2_with fail
  go_ret
  exact ⟨rfl, K5.out⟩

set_option maxHeartbeats 1600000 in
set_option maxRecDepth 100000 in
theorem ckey_f_c31 (x : Int) (hx : x = 31) (w : World) :
    Calls Try.prog 8 #[.int .u8 x, .bool false] w fun r w' => r = .returned (.bool true) ∧ Keeps [] w w' := by
  subst hx
  have HE := Lib.hid (show ((keySt false).step (31 : Int)).2.c.e = 2 from rfl)
  go_enter Try.func8, Try.ntmps8
  go_wp2_with fail
  refine (calive_any w).mono ?_
  rintro e w1 ⟨rfl, k1⟩
  have K1 := Lib.hid k1
  have z1 := k1.size
  clear k1
  go_wp2_with fail
  refine (cpnew_yes 4 (by omega) w1).mono ?_
  rintro e w2 ⟨rfl, hin2, k2⟩
  have HIN2 := Lib.hid hin2
  have K2 := Lib.hid (K1.out.trans k2)
  have z2 := k2.size
  clear hin2 k2
  go_wp2_with fail
  have hst := cstepped (N := 0) (w0 := w) ⟨HIN2.out, Cb.fit_new (by omega), by omega, z2⟩ 161 (by omega) (by omega) z1 K2.out (by omega)
  rw [keySt_f] at hst
  refine hst.mono ?_
  clear hst
  rintro e w3 ⟨v3, ov3, sv3, rfl, hown3, hok3, k3, z3⟩
  have HOK3 := Lib.hid (show CbOk _ _ _ _ _ _ (keySt false) from hok3)
  have K3 := Lib.hid k3
  clear hown3 hok3 k3
  simp only [keySt]
  go_wp2_with fail
  have hst := cstepped HOK3.out (31 : Int) (by omega) (by omega) z1 K3.out (by omega)
  rw [HE.out] at hst
  refine hst.mono ?_
  clear hst
  rintro e w4 ⟨v4, ov4, sv4, rfl, hown4, hok4, k4, z4⟩
  obtain ⟨a4, c4, rfl⟩ := hown4.shape
  have K4 := Lib.hid k4
  clear hown4 hok4 k4
  go_wp2_with fail
  have hall := cborAll_any ⟨#[191, 97, 97, 255]⟩ 4 w4 (by decide)
  rw [show (cborAll (⟨#[191, 97, 97, 255]⟩ : ByteArray).data.toList 4).2 = 2 from lacksValue] at hall
  refine hall.mono ?_
  clear hall
  rintro e w5 ⟨v5, rfl, hown5, k5⟩
  obtain ⟨a5, c5, rfl⟩ := hown5.shape
  have K5 := Lib.hid (K4.out.trans k5)
  clear hown5 k5
  go_wp2_with fail
  go_ret
  exact ⟨rfl, K5.out⟩

set_option maxHeartbeats 1600000 in
set_option maxRecDepth 100000 in
theorem ckey_f_c63 (x : Int) (hx : x = 63) (w : World) :
    Calls Try.prog 8 #[.int .u8 x, .bool false] w fun r w' => r = .returned (.bool true) ∧ Keeps [] w w' := by
  subst hx
  have HE := Lib.hid (show ((keySt false).step (63 : Int)).2.c.e = 2 from rfl)
  go_enter Try.func8, Try.ntmps8
  go_wp2_with fail
  refine (calive_any w).mono ?_
  rintro e w1 ⟨rfl, k1⟩
  have K1 := Lib.hid k1
  have z1 := k1.size
  clear k1
  go_wp2_with fail
  refine (cpnew_yes 4 (by omega) w1).mono ?_
  rintro e w2 ⟨rfl, hin2, k2⟩
  have HIN2 := Lib.hid hin2
  have K2 := Lib.hid (K1.out.trans k2)
  have z2 := k2.size
  clear hin2 k2
  go_wp2_with fail
  have hst := cstepped (N := 0) (w0 := w) ⟨HIN2.out, Cb.fit_new (by omega), by omega, z2⟩ 161 (by omega) (by omega) z1 K2.out (by omega)
  rw [keySt_f] at hst
  refine hst.mono ?_
  clear hst
  rintro e w3 ⟨v3, ov3, sv3, rfl, hown3, hok3, k3, z3⟩
  have HOK3 := Lib.hid (show CbOk _ _ _ _ _ _ (keySt false) from hok3)
  have K3 := Lib.hid k3
  clear hown3 hok3 k3
  simp only [keySt]
  go_wp2_with fail
  have hst := cstepped HOK3.out (63 : Int) (by omega) (by omega) z1 K3.out (by omega)
  rw [HE.out] at hst
  refine hst.mono ?_
  clear hst
  rintro e w4 ⟨v4, ov4, sv4, rfl, hown4, hok4, k4, z4⟩
  obtain ⟨a4, c4, rfl⟩ := hown4.shape
  have K4 := Lib.hid k4
  clear hown4 hok4 k4
  go_wp2_with fail
  have hall := cborAll_any ⟨#[191, 97, 97, 255]⟩ 4 w4 (by decide)
  rw [show (cborAll (⟨#[191, 97, 97, 255]⟩ : ByteArray).data.toList 4).2 = 2 from lacksValue] at hall
  refine hall.mono ?_
  clear hall
  rintro e w5 ⟨v5, rfl, hown5, k5⟩
  obtain ⟨a5, c5, rfl⟩ := hown5.shape
  have K5 := Lib.hid (K4.out.trans k5)
  clear hown5 k5
  go_wp2_with fail
  go_ret
  exact ⟨rfl, K5.out⟩

set_option maxHeartbeats 1600000 in
set_option maxRecDepth 100000 in
theorem ckey_f_c223 (x : Int) (hx : x = 223) (w : World) :
    Calls Try.prog 8 #[.int .u8 x, .bool false] w fun r w' => r = .returned (.bool true) ∧ Keeps [] w w' := by
  subst hx
  have HE := Lib.hid (show ((keySt false).step (223 : Int)).2.c.e = 2 from rfl)
  go_enter Try.func8, Try.ntmps8
  go_wp2_with fail
  refine (calive_any w).mono ?_
  rintro e w1 ⟨rfl, k1⟩
  have K1 := Lib.hid k1
  have z1 := k1.size
  clear k1
  go_wp2_with fail
  refine (cpnew_yes 4 (by omega) w1).mono ?_
  rintro e w2 ⟨rfl, hin2, k2⟩
  have HIN2 := Lib.hid hin2
  have K2 := Lib.hid (K1.out.trans k2)
  have z2 := k2.size
  clear hin2 k2
  go_wp2_with fail
  have hst := cstepped (N := 0) (w0 := w) ⟨HIN2.out, Cb.fit_new (by omega), by omega, z2⟩ 161 (by omega) (by omega) z1 K2.out (by omega)
  rw [keySt_f] at hst
  refine hst.mono ?_
  clear hst
  rintro e w3 ⟨v3, ov3, sv3, rfl, hown3, hok3, k3, z3⟩
  have HOK3 := Lib.hid (show CbOk _ _ _ _ _ _ (keySt false) from hok3)
  have K3 := Lib.hid k3
  clear hown3 hok3 k3
  simp only [keySt]
  go_wp2_with fail
  have hst := cstepped HOK3.out (223 : Int) (by omega) (by omega) z1 K3.out (by omega)
  rw [HE.out] at hst
  refine hst.mono ?_
  clear hst
  rintro e w4 ⟨v4, ov4, sv4, rfl, hown4, hok4, k4, z4⟩
  obtain ⟨a4, c4, rfl⟩ := hown4.shape
  have K4 := Lib.hid k4
  clear hown4 hok4 k4
  go_wp2_with fail
  have hall := cborAll_any ⟨#[191, 97, 97, 255]⟩ 4 w4 (by decide)
  rw [show (cborAll (⟨#[191, 97, 97, 255]⟩ : ByteArray).data.toList 4).2 = 2 from lacksValue] at hall
  refine hall.mono ?_
  clear hall
  rintro e w5 ⟨v5, rfl, hown5, k5⟩
  obtain ⟨a5, c5, rfl⟩ := hown5.shape
  have K5 := Lib.hid (K4.out.trans k5)
  clear hown5 k5
  go_wp2_with fail
  go_ret
  exact ⟨rfl, K5.out⟩

set_option maxHeartbeats 1600000 in
set_option maxRecDepth 100000 in
theorem ckey_f_c255 (x : Int) (hx : x = 255) (w : World) :
    Calls Try.prog 8 #[.int .u8 x, .bool false] w fun r w' => r = .returned (.bool true) ∧ Keeps [] w w' := by
  subst hx
  have HE := Lib.hid (show ((keySt false).step (255 : Int)).2.c.e = 2 from rfl)
  go_enter Try.func8, Try.ntmps8
  go_wp2_with fail
  refine (calive_any w).mono ?_
  rintro e w1 ⟨rfl, k1⟩
  have K1 := Lib.hid k1
  have z1 := k1.size
  clear k1
  go_wp2_with fail
  refine (cpnew_yes 4 (by omega) w1).mono ?_
  rintro e w2 ⟨rfl, hin2, k2⟩
  have HIN2 := Lib.hid hin2
  have K2 := Lib.hid (K1.out.trans k2)
  have z2 := k2.size
  clear hin2 k2
  go_wp2_with fail
  have hst := cstepped (N := 0) (w0 := w) ⟨HIN2.out, Cb.fit_new (by omega), by omega, z2⟩ 161 (by omega) (by omega) z1 K2.out (by omega)
  rw [keySt_f] at hst
  refine hst.mono ?_
  clear hst
  rintro e w3 ⟨v3, ov3, sv3, rfl, hown3, hok3, k3, z3⟩
  have HOK3 := Lib.hid (show CbOk _ _ _ _ _ _ (keySt false) from hok3)
  have K3 := Lib.hid k3
  clear hown3 hok3 k3
  simp only [keySt]
  go_wp2_with fail
  have hst := cstepped HOK3.out (255 : Int) (by omega) (by omega) z1 K3.out (by omega)
  rw [HE.out] at hst
  refine hst.mono ?_
  clear hst
  rintro e w4 ⟨v4, ov4, sv4, rfl, hown4, hok4, k4, z4⟩
  obtain ⟨a4, c4, rfl⟩ := hown4.shape
  have K4 := Lib.hid k4
  clear hown4 hok4 k4
  go_wp2_with fail
  have hall := cborAll_any ⟨#[191, 97, 97, 255]⟩ 4 w4 (by decide)
  rw [show (cborAll (⟨#[191, 97, 97, 255]⟩ : ByteArray).data.toList 4).2 = 2 from lacksValue] at hall
  refine hall.mono ?_
  clear hall
  rintro e w5 ⟨v5, rfl, hown5, k5⟩
  obtain ⟨a5, c5, rfl⟩ := hown5.shape
  have K5 := Lib.hid (K4.out.trans k5)
  clear hown5 k5
  go_wp2_with fail
  go_ret
  exact ⟨rfl, K5.out⟩

set_option maxHeartbeats 1600000 in
set_option maxRecDepth 100000 in
theorem ckey_f_c95 (x : Int) (hx : x = 95) (w : World) :
    Calls Try.prog 8 #[.int .u8 x, .bool false] w fun r w' => r = .returned (.bool true) ∧ Keeps [] w w' := by
  subst hx
  have HE := Lib.hid (show ((keySt false).step (95 : Int)).2.c.e = 8 from rfl)
  go_enter Try.func8, Try.ntmps8
  go_wp2_with fail
  refine (calive_any w).mono ?_
  rintro e w1 ⟨rfl, k1⟩
  have K1 := Lib.hid k1
  have z1 := k1.size
  clear k1
  go_wp2_with fail
  refine (cpnew_yes 4 (by omega) w1).mono ?_
  rintro e w2 ⟨rfl, hin2, k2⟩
  have HIN2 := Lib.hid hin2
  have K2 := Lib.hid (K1.out.trans k2)
  have z2 := k2.size
  clear hin2 k2
  go_wp2_with fail
  have hst := cstepped (N := 0) (w0 := w) ⟨HIN2.out, Cb.fit_new (by omega), by omega, z2⟩ 161 (by omega) (by omega) z1 K2.out (by omega)
  rw [keySt_f] at hst
  refine hst.mono ?_
  clear hst
  rintro e w3 ⟨v3, ov3, sv3, rfl, hown3, hok3, k3, z3⟩
  have HOK3 := Lib.hid (show CbOk _ _ _ _ _ _ (keySt false) from hok3)
  have K3 := Lib.hid k3
  clear hown3 hok3 k3
  simp only [keySt]
  go_wp2_with fail
  have hst := cstepped HOK3.out (95 : Int) (by omega) (by omega) z1 K3.out (by omega)
  rw [HE.out] at hst
  refine hst.mono ?_
  clear hst
  rintro e w4 ⟨v4, ov4, sv4, rfl, hown4, hok4, k4, z4⟩
  obtain ⟨a4, c4, rfl⟩ := hown4.shape
  have K4 := Lib.hid k4
  clear hown4 hok4 k4
  go_wp2_with fail
  have hall := cborAll_any ⟨#[191, 97, 97, 255]⟩ 4 w4 (by decide)
  rw [show (cborAll (⟨#[191, 97, 97, 255]⟩ : ByteArray).data.toList 4).2 = 2 from lacksValue] at hall
  refine hall.mono ?_
  clear hall
  rintro e w5 ⟨v5, rfl, hown5, k5⟩
  obtain ⟨a5, c5, rfl⟩ := hown5.shape
  have K5 := Lib.hid (K4.out.trans k5)
  clear hown5 k5
  go_wp2_with fail
  go_ret
  exact ⟨rfl, K5.out⟩

set_option maxHeartbeats 1600000 in
set_option maxRecDepth 100000 in
theorem ckey_f_c127 (x : Int) (hx : x = 127) (w : World) :
    Calls Try.prog 8 #[.int .u8 x, .bool false] w fun r w' => r = .returned (.bool true) ∧ Keeps [] w w' := by
  subst hx
  have HE := Lib.hid (show ((keySt false).step (127 : Int)).2.c.e = 0 from rfl)
  go_enter Try.func8, Try.ntmps8
  go_wp2_with fail
  refine (calive_any w).mono ?_
  rintro e w1 ⟨rfl, k1⟩
  have K1 := Lib.hid k1
  have z1 := k1.size
  clear k1
  go_wp2_with fail
  refine (cpnew_yes 4 (by omega) w1).mono ?_
  rintro e w2 ⟨rfl, hin2, k2⟩
  have HIN2 := Lib.hid hin2
  have K2 := Lib.hid (K1.out.trans k2)
  have z2 := k2.size
  clear hin2 k2
  go_wp2_with fail
  have hst := cstepped (N := 0) (w0 := w) ⟨HIN2.out, Cb.fit_new (by omega), by omega, z2⟩ 161 (by omega) (by omega) z1 K2.out (by omega)
  rw [keySt_f] at hst
  refine hst.mono ?_
  clear hst
  rintro e w3 ⟨v3, ov3, sv3, rfl, hown3, hok3, k3, z3⟩
  have HOK3 := Lib.hid (show CbOk _ _ _ _ _ _ (keySt false) from hok3)
  have K3 := Lib.hid k3
  clear hown3 hok3 k3
  simp only [keySt]
  go_wp2_with fail
  have hst := cstepped HOK3.out (127 : Int) (by omega) (by omega) z1 K3.out (by omega)
  rw [HE.out] at hst
  refine hst.mono ?_
  clear hst
  rintro e w4 ⟨v4, ov4, sv4, rfl, hown4, hok4, k4, z4⟩
  obtain ⟨a4, c4, rfl⟩ := hown4.shape
  have K4 := Lib.hid k4
  clear hown4 hok4 k4
  go_wp2_with fail
  have hall := cborAll_any ⟨#[191, 97, 97, 255]⟩ 4 w4 (by decide)
  rw [show (cborAll (⟨#[191, 97, 97, 255]⟩ : ByteArray).data.toList 4).2 = 2 from lacksValue] at hall
  refine hall.mono ?_
  clear hall
  rintro e w5 ⟨v5, rfl, hown5, k5⟩
  obtain ⟨a5, c5, rfl⟩ := hown5.shape
  have K5 := Lib.hid (K4.out.trans k5)
  clear hown5 k5
  go_wp2_with fail
  go_ret
  exact ⟨rfl, K5.out⟩

set_option maxHeartbeats 1600000 in
set_option maxRecDepth 100000 in
theorem ckey_f_c159 (x : Int) (hx : x = 159) (w : World) :
    Calls Try.prog 8 #[.int .u8 x, .bool false] w fun r w' => r = .returned (.bool true) ∧ Keeps [] w w' := by
  subst hx
  have HE := Lib.hid (show ((keySt false).step (159 : Int)).2.c.e = 8 from rfl)
  go_enter Try.func8, Try.ntmps8
  go_wp2_with fail
  refine (calive_any w).mono ?_
  rintro e w1 ⟨rfl, k1⟩
  have K1 := Lib.hid k1
  have z1 := k1.size
  clear k1
  go_wp2_with fail
  refine (cpnew_yes 4 (by omega) w1).mono ?_
  rintro e w2 ⟨rfl, hin2, k2⟩
  have HIN2 := Lib.hid hin2
  have K2 := Lib.hid (K1.out.trans k2)
  have z2 := k2.size
  clear hin2 k2
  go_wp2_with fail
  have hst := cstepped (N := 0) (w0 := w) ⟨HIN2.out, Cb.fit_new (by omega), by omega, z2⟩ 161 (by omega) (by omega) z1 K2.out (by omega)
  rw [keySt_f] at hst
  refine hst.mono ?_
  clear hst
  rintro e w3 ⟨v3, ov3, sv3, rfl, hown3, hok3, k3, z3⟩
  have HOK3 := Lib.hid (show CbOk _ _ _ _ _ _ (keySt false) from hok3)
  have K3 := Lib.hid k3
  clear hown3 hok3 k3
  simp only [keySt]
  go_wp2_with fail
  have hst := cstepped HOK3.out (159 : Int) (by omega) (by omega) z1 K3.out (by omega)
  rw [HE.out] at hst
  refine hst.mono ?_
  clear hst
  rintro e w4 ⟨v4, ov4, sv4, rfl, hown4, hok4, k4, z4⟩
  obtain ⟨a4, c4, rfl⟩ := hown4.shape
  have K4 := Lib.hid k4
  clear hown4 hok4 k4
  go_wp2_with fail
  have hall := cborAll_any ⟨#[191, 97, 97, 255]⟩ 4 w4 (by decide)
  rw [show (cborAll (⟨#[191, 97, 97, 255]⟩ : ByteArray).data.toList 4).2 = 2 from lacksValue] at hall
  refine hall.mono ?_
  clear hall
  rintro e w5 ⟨v5, rfl, hown5, k5⟩
  obtain ⟨a5, c5, rfl⟩ := hown5.shape
  have K5 := Lib.hid (K4.out.trans k5)
  clear hown5 k5
  go_wp2_with fail
  go_ret
  exact ⟨rfl, K5.out⟩

set_option maxHeartbeats 1600000 in
set_option maxRecDepth 100000 in
theorem ckey_f_c191 (x : Int) (hx : x = 191) (w : World) :
    Calls Try.prog 8 #[.int .u8 x, .bool false] w fun r w' => r = .returned (.bool true) ∧ Keeps [] w w' := by
  subst hx
  have HE := Lib.hid (show ((keySt false).step (191 : Int)).2.c.e = 8 from rfl)
  go_enter Try.func8, Try.ntmps8
  go_wp2_with fail
  refine (calive_any w).mono ?_
  rintro e w1 ⟨rfl, k1⟩
  have K1 := Lib.hid k1
  have z1 := k1.size
  clear k1
  go_wp2_with fail
  refine (cpnew_yes 4 (by omega) w1).mono ?_
  rintro e w2 ⟨rfl, hin2, k2⟩
  have HIN2 := Lib.hid hin2
  have K2 := Lib.hid (K1.out.trans k2)
  have z2 := k2.size
  clear hin2 k2
  go_wp2_with fail
  have hst := cstepped (N := 0) (w0 := w) ⟨HIN2.out, Cb.fit_new (by omega), by omega, z2⟩ 161 (by omega) (by omega) z1 K2.out (by omega)
  rw [keySt_f] at hst
  refine hst.mono ?_
  clear hst
  rintro e w3 ⟨v3, ov3, sv3, rfl, hown3, hok3, k3, z3⟩
  have HOK3 := Lib.hid (show CbOk _ _ _ _ _ _ (keySt false) from hok3)
  have K3 := Lib.hid k3
  clear hown3 hok3 k3
  simp only [keySt]
  go_wp2_with fail
  have hst := cstepped HOK3.out (191 : Int) (by omega) (by omega) z1 K3.out (by omega)
  rw [HE.out] at hst
  refine hst.mono ?_
  clear hst
  rintro e w4 ⟨v4, ov4, sv4, rfl, hown4, hok4, k4, z4⟩
  obtain ⟨a4, c4, rfl⟩ := hown4.shape
  have K4 := Lib.hid k4
  clear hown4 hok4 k4
  go_wp2_with fail
  have hall := cborAll_any ⟨#[191, 97, 97, 255]⟩ 4 w4 (by decide)
  rw [show (cborAll (⟨#[191, 97, 97, 255]⟩ : ByteArray).data.toList 4).2 = 2 from lacksValue] at hall
  refine hall.mono ?_
  clear hall
  rintro e w5 ⟨v5, rfl, hown5, k5⟩
  obtain ⟨a5, c5, rfl⟩ := hown5.shape
  have K5 := Lib.hid (K4.out.trans k5)
  clear hown5 k5
  go_wp2_with fail
  go_ret
  exact ⟨rfl, K5.out⟩

set_option maxHeartbeats 1600000 in
set_option maxRecDepth 100000 in
theorem ckey_t_low28 (x : Int) (hx0 : 0 ≤ x) (hx1 : x ≤ 255) (hl : x % 32 = 28) (w : World) :
    Calls Try.prog 8 #[.int .u8 x, .bool true] w fun r w' => r = .returned (.bool true) ∧ Keeps [] w w' := by
  have hand := pk_and31 hx0 hx1
  rw [hl] at hand
  have HE := Lib.hid (show ((keySt true).step x).2.c.e = 2 from keyed_t.low (by omega))
  go_enter Try.func8, Try.ntmps8
  go_wp2_with fail
  refine (calive_any w).mono ?_
  rintro e w1 ⟨rfl, k1⟩
  have K1 := Lib.hid k1
  have z1 := k1.size
  clear k1
  go_wp2_with fail
  refine (cpnew_yes 4 (by omega) w1).mono ?_
  rintro e w2 ⟨rfl, hin2, k2⟩
  have HIN2 := Lib.hid hin2
  have K2 := Lib.hid (K1.out.trans k2)
  have z2 := k2.size
  clear hin2 k2
  go_wp2_with fail
  have hst := cstepped (N := 0) (w0 := w) ⟨HIN2.out, Cb.fit_new (by omega), by omega, z2⟩ 191 (by omega) (by omega) z1 K2.out (by omega)
  rw [keySt_t] at hst
  refine hst.mono ?_
  clear hst
  rintro e w3 ⟨v3, ov3, sv3, rfl, hown3, hok3, k3, z3⟩
  have HOK3 := Lib.hid (show CbOk _ _ _ _ _ _ (keySt true) from hok3)
  have K3 := Lib.hid k3
  clear hown3 hok3 k3
  simp only [keySt]
  go_wp2_with fail
  have hst := cstepped HOK3.out x (by omega) (by omega) z1 K3.out (by omega)
  rw [HE.out] at hst
  refine hst.mono ?_
  clear hst
  rintro e w4 ⟨v4, ov4, sv4, rfl, hown4, hok4, k4, z4⟩
  obtain ⟨a4, c4, rfl⟩ := hown4.shape
  have K4 := Lib.hid k4
  clear hown4 hok4 k4
  go_wp2_with fail
  have hall := cborAll_any ⟨#[191, 97, 97, 255]⟩ 4 w4 (by decide)
  rw [show (cborAll (⟨#[191, 97, 97, 255]⟩ : ByteArray).data.toList 4).2 = 2 from lacksValue] at hall
  refine hall.mono ?_
  clear hall
  rintro e w5 ⟨v5, rfl, hown5, k5⟩
  obtain ⟨a5, c5, rfl⟩ := hown5.shape
  have K5 := Lib.hid (K4.out.trans k5)
  clear hown5 k5
  go_wp2_with fail
  go_ret
  exact ⟨rfl, K5.out⟩

set_option maxHeartbeats 1600000 in
set_option maxRecDepth 100000 in
theorem ckey_t_low29 (x : Int) (hx0 : 0 ≤ x) (hx1 : x ≤ 255) (hl : x % 32 = 29) (w : World) :
    Calls Try.prog 8 #[.int .u8 x, .bool true] w fun r w' => r = .returned (.bool true) ∧ Keeps [] w w' := by
  have hand := pk_and31 hx0 hx1
  rw [hl] at hand
  have HE := Lib.hid (show ((keySt true).step x).2.c.e = 2 from keyed_t.low (by omega))
  go_enter Try.func8, Try.ntmps8
  go_wp2_with fail
  refine (calive_any w).mono ?_
  rintro e w1 ⟨rfl, k1⟩
  have K1 := Lib.hid k1
  have z1 := k1.size
  clear k1
  go_wp2_with fail
  refine (cpnew_yes 4 (by omega) w1).mono ?_
  rintro e w2 ⟨rfl, hin2, k2⟩
  have HIN2 := Lib.hid hin2
  have K2 := Lib.hid (K1.out.trans k2)
  have z2 := k2.size
  clear hin2 k2
  go_wp2_with fail
  have hst := cstepped (N := 0) (w0 := w) ⟨HIN2.out, Cb.fit_new (by omega), by omega, z2⟩ 191 (by omega) (by omega) z1 K2.out (by omega)
  rw [keySt_t] at hst
  refine hst.mono ?_
  clear hst
  rintro e w3 ⟨v3, ov3, sv3, rfl, hown3, hok3, k3, z3⟩
  have HOK3 := Lib.hid (show CbOk _ _ _ _ _ _ (keySt true) from hok3)
  have K3 := Lib.hid k3
  clear hown3 hok3 k3
  simp only [keySt]
  go_wp2_with fail
  have hst := cstepped HOK3.out x (by omega) (by omega) z1 K3.out (by omega)
  rw [HE.out] at hst
  refine hst.mono ?_
  clear hst
  rintro e w4 ⟨v4, ov4, sv4, rfl, hown4, hok4, k4, z4⟩
  obtain ⟨a4, c4, rfl⟩ := hown4.shape
  have K4 := Lib.hid k4
  clear hown4 hok4 k4
  go_wp2_with fail
  have hall := cborAll_any ⟨#[191, 97, 97, 255]⟩ 4 w4 (by decide)
  rw [show (cborAll (⟨#[191, 97, 97, 255]⟩ : ByteArray).data.toList 4).2 = 2 from lacksValue] at hall
  refine hall.mono ?_
  clear hall
  rintro e w5 ⟨v5, rfl, hown5, k5⟩
  obtain ⟨a5, c5, rfl⟩ := hown5.shape
  have K5 := Lib.hid (K4.out.trans k5)
  clear hown5 k5
  go_wp2_with fail
  go_ret
  exact ⟨rfl, K5.out⟩

set_option maxHeartbeats 1600000 in
set_option maxRecDepth 100000 in
theorem ckey_t_low30 (x : Int) (hx0 : 0 ≤ x) (hx1 : x ≤ 255) (hl : x % 32 = 30) (w : World) :
    Calls Try.prog 8 #[.int .u8 x, .bool true] w fun r w' => r = .returned (.bool true) ∧ Keeps [] w w' := by
  have hand := pk_and31 hx0 hx1
  rw [hl] at hand
  have HE := Lib.hid (show ((keySt true).step x).2.c.e = 2 from keyed_t.low (by omega))
  go_enter Try.func8, Try.ntmps8
  go_wp2_with fail
  refine (calive_any w).mono ?_
  rintro e w1 ⟨rfl, k1⟩
  have K1 := Lib.hid k1
  have z1 := k1.size
  clear k1
  go_wp2_with fail
  refine (cpnew_yes 4 (by omega) w1).mono ?_
  rintro e w2 ⟨rfl, hin2, k2⟩
  have HIN2 := Lib.hid hin2
  have K2 := Lib.hid (K1.out.trans k2)
  have z2 := k2.size
  clear hin2 k2
  go_wp2_with fail
  have hst := cstepped (N := 0) (w0 := w) ⟨HIN2.out, Cb.fit_new (by omega), by omega, z2⟩ 191 (by omega) (by omega) z1 K2.out (by omega)
  rw [keySt_t] at hst
  refine hst.mono ?_
  clear hst
  rintro e w3 ⟨v3, ov3, sv3, rfl, hown3, hok3, k3, z3⟩
  have HOK3 := Lib.hid (show CbOk _ _ _ _ _ _ (keySt true) from hok3)
  have K3 := Lib.hid k3
  clear hown3 hok3 k3
  simp only [keySt]
  go_wp2_with fail
  have hst := cstepped HOK3.out x (by omega) (by omega) z1 K3.out (by omega)
  rw [HE.out] at hst
  refine hst.mono ?_
  clear hst
  rintro e w4 ⟨v4, ov4, sv4, rfl, hown4, hok4, k4, z4⟩
  obtain ⟨a4, c4, rfl⟩ := hown4.shape
  have K4 := Lib.hid k4
  clear hown4 hok4 k4
  go_wp2_with fail
  have hall := cborAll_any ⟨#[191, 97, 97, 255]⟩ 4 w4 (by decide)
  rw [show (cborAll (⟨#[191, 97, 97, 255]⟩ : ByteArray).data.toList 4).2 = 2 from lacksValue] at hall
  refine hall.mono ?_
  clear hall
  rintro e w5 ⟨v5, rfl, hown5, k5⟩
  obtain ⟨a5, c5, rfl⟩ := hown5.shape
  have K5 := Lib.hid (K4.out.trans k5)
  clear hown5 k5
  go_wp2_with fail
  go_ret
  exact ⟨rfl, K5.out⟩

set_option maxHeartbeats 1600000 in
set_option maxRecDepth 100000 in
theorem ckey_t_other (x : Int) (hx0 : 0 ≤ x) (hx1 : x ≤ 255) (hm : x / 32 ≠ 3) (hl : x % 32 < 28) (w : World) :
    Calls Try.prog 8 #[.int .u8 x, .bool true] w fun r w' => r = .returned (.bool true) ∧ Keeps [] w w' := by
  have hand := pk_and31 hx0 hx1
  have hm3 : (x / 32 != 3) = true := by simpa using hm
  have hl1 : ¬ 28 ≤ x % 32 := by omega
  have hl2 : (x % 32 == 31) = false := by simp; omega
  have hxb : (x == 255) = false := by simp; omega
  have HE := Lib.hid (show ((keySt true).step x).2.c.e = 8 from keyed_t.other hm (by omega))
  go_enter Try.func8, Try.ntmps8
  go_wp2_with fail
  refine (calive_any w).mono ?_
  rintro e w1 ⟨rfl, k1⟩
  have K1 := Lib.hid k1
  have z1 := k1.size
  clear k1
  go_wp2_with fail
  refine (cpnew_yes 4 (by omega) w1).mono ?_
  rintro e w2 ⟨rfl, hin2, k2⟩
  have HIN2 := Lib.hid hin2
  have K2 := Lib.hid (K1.out.trans k2)
  have z2 := k2.size
  clear hin2 k2
  go_wp2_with fail
  have hst := cstepped (N := 0) (w0 := w) ⟨HIN2.out, Cb.fit_new (by omega), by omega, z2⟩ 191 (by omega) (by omega) z1 K2.out (by omega)
  rw [keySt_t] at hst
  refine hst.mono ?_
  clear hst
  rintro e w3 ⟨v3, ov3, sv3, rfl, hown3, hok3, k3, z3⟩
  have HOK3 := Lib.hid (show CbOk _ _ _ _ _ _ (keySt true) from hok3)
  have K3 := Lib.hid k3
  clear hown3 hok3 k3
  simp only [keySt]
  go_wp2_with fail
  have hst := cstepped HOK3.out x (by omega) (by omega) z1 K3.out (by omega)
  rw [HE.out] at hst
  refine hst.mono ?_
  clear hst
  rintro e w4 ⟨v4, ov4, sv4, rfl, hown4, hok4, k4, z4⟩
  obtain ⟨a4, c4, rfl⟩ := hown4.shape
  have K4 := Lib.hid k4
  clear hown4 hok4 k4
  go_wp2_with fail
  have hall := cborAll_any ⟨#[191, 97, 97, 255]⟩ 4 w4 (by decide)
  rw [show (cborAll (⟨#[191, 97, 97, 255]⟩ : ByteArray).data.toList 4).2 = 2 from lacksValue] at hall
  refine hall.mono ?_
  clear hall
  rintro e w5 ⟨v5, rfl, hown5, k5⟩
  obtain ⟨a5, c5, rfl⟩ := hown5.shape
  have K5 := Lib.hid (K4.out.trans k5)
  clear hown5 k5
  go_wp2_with fail
  go_ret
  exact ⟨rfl, K5.out⟩

set_option maxHeartbeats 1600000 in
set_option maxRecDepth 100000 in
theorem ckey_t_text (x : Int) (hx0 : 0 ≤ x) (hx1 : x ≤ 255) (hm : x / 32 = 3) (hl : x % 32 < 28) (w : World) :
    Calls Try.prog 8 #[.int .u8 x, .bool true] w fun r w' => r = .returned (.bool true) ∧ Keeps [] w w' := by
  have hand := pk_and31 hx0 hx1
  have hl1 : ¬ 28 ≤ x % 32 := by omega
  have hl2 : (x % 32 == 31) = false := by simp; omega
  have hxb : (x == 255) = false := by simp; omega
  have HE := Lib.hid (show ((keySt true).step x).2.c.e = 0 from keyed_t.text hm (by omega))
  go_enter Try.func8, Try.ntmps8
  go_wp2_with fail
  refine (calive_any w).mono ?_
  rintro e w1 ⟨rfl, k1⟩
  have K1 := Lib.hid k1
  have z1 := k1.size
  clear k1
  go_wp2_with fail
  refine (cpnew_yes 4 (by omega) w1).mono ?_
  rintro e w2 ⟨rfl, hin2, k2⟩
  have HIN2 := Lib.hid hin2
  have K2 := Lib.hid (K1.out.trans k2)
  have z2 := k2.size
  clear hin2 k2
  go_wp2_with fail
  have hst := cstepped (N := 0) (w0 := w) ⟨HIN2.out, Cb.fit_new (by omega), by omega, z2⟩ 191 (by omega) (by omega) z1 K2.out (by omega)
  rw [keySt_t] at hst
  refine hst.mono ?_
  clear hst
  rintro e w3 ⟨v3, ov3, sv3, rfl, hown3, hok3, k3, z3⟩
  have HOK3 := Lib.hid (show CbOk _ _ _ _ _ _ (keySt true) from hok3)
  have K3 := Lib.hid k3
  clear hown3 hok3 k3
  simp only [keySt]
  go_wp2_with fail
  have hst := cstepped HOK3.out x (by omega) (by omega) z1 K3.out (by omega)
  rw [HE.out] at hst
  refine hst.mono ?_
  clear hst
  rintro e w4 ⟨v4, ov4, sv4, rfl, hown4, hok4, k4, z4⟩
  obtain ⟨a4, c4, rfl⟩ := hown4.shape
  have K4 := Lib.hid k4
  clear hown4 hok4 k4
  go_wp2_with fail
  have hall := cborAll_any ⟨#[191, 97, 97, 255]⟩ 4 w4 (by decide)
  rw [show (cborAll (⟨#[191, 97, 97, 255]⟩ : ByteArray).data.toList 4).2 = 2 from lacksValue] at hall
  refine hall.mono ?_
  clear hall
  rintro e w5 ⟨v5, rfl, hown5, k5⟩
  obtain ⟨a5, c5, rfl⟩ := hown5.shape
  have K5 := Lib.hid (K4.out.trans k5)
  clear hown5 k5
  go_wp2_with fail
  go_ret
  exact ⟨rfl, K5.out⟩

set_option maxHeartbeats 1600000 in
set_option maxRecDepth 100000 in
theorem ckey_t_c31 (x : Int) (hx : x = 31) (w : World) :
    Calls Try.prog 8 #[.int .u8 x, .bool true] w fun r w' => r = .returned (.bool true) ∧ Keeps [] w w' := by
  subst hx
  have HE := Lib.hid (show ((keySt true).step (31 : Int)).2.c.e = 2 from rfl)
  go_enter Try.func8, Try.ntmps8
  go_wp2_with fail
  refine (calive_any w).mono ?_
  rintro e w1 ⟨rfl, k1⟩
  have K1 := Lib.hid k1
  have z1 := k1.size
  clear k1
  go_wp2_with fail
  refine (cpnew_yes 4 (by omega) w1).mono ?_
  rintro e w2 ⟨rfl, hin2, k2⟩
  have HIN2 := Lib.hid hin2
  have K2 := Lib.hid (K1.out.trans k2)
  have z2 := k2.size
  clear hin2 k2
  go_wp2_with fail
  have hst := cstepped (N := 0) (w0 := w) ⟨HIN2.out, Cb.fit_new (by omega), by omega, z2⟩ 191 (by omega) (by omega) z1 K2.out (by omega)
  rw [keySt_t] at hst
  refine hst.mono ?_
  clear hst
  rintro e w3 ⟨v3, ov3, sv3, rfl, hown3, hok3, k3, z3⟩
  have HOK3 := Lib.hid (show CbOk _ _ _ _ _ _ (keySt true) from hok3)
  have K3 := Lib.hid k3
  clear hown3 hok3 k3
  simp only [keySt]
  go_wp2_with fail
  have hst := cstepped HOK3.out (31 : Int) (by omega) (by omega) z1 K3.out (by omega)
  rw [HE.out] at hst
  refine hst.mono ?_
  clear hst
  rintro e w4 ⟨v4, ov4, sv4, rfl, hown4, hok4, k4, z4⟩
  obtain ⟨a4, c4, rfl⟩ := hown4.shape
  have K4 := Lib.hid k4
  clear hown4 hok4 k4
  go_wp2_with fail
  have hall := cborAll_any ⟨#[191, 97, 97, 255]⟩ 4 w4 (by decide)
  rw [show (cborAll (⟨#[191, 97, 97, 255]⟩ : ByteArray).data.toList 4).2 = 2 from lacksValue] at hall
  refine hall.mono ?_
  clear hall
  rintro e w5 ⟨v5, rfl, hown5, k5⟩
  obtain ⟨a5, c5, rfl⟩ := hown5.shape
  have K5 := Lib.hid (K4.out.trans k5)
  clear hown5 k5
  go_wp2_with fail
  go_ret
  exact ⟨rfl, K5.out⟩

set_option maxHeartbeats 1600000 in
set_option maxRecDepth 100000 in
theorem ckey_t_c63 (x : Int) (hx : x = 63) (w : World) :
    Calls Try.prog 8 #[.int .u8 x, .bool true] w fun r w' => r = .returned (.bool true) ∧ Keeps [] w w' := by
  subst hx
  have HE := Lib.hid (show ((keySt true).step (63 : Int)).2.c.e = 2 from rfl)
  go_enter Try.func8, Try.ntmps8
  go_wp2_with fail
  refine (calive_any w).mono ?_
  rintro e w1 ⟨rfl, k1⟩
  have K1 := Lib.hid k1
  have z1 := k1.size
  clear k1
  go_wp2_with fail
  refine (cpnew_yes 4 (by omega) w1).mono ?_
  rintro e w2 ⟨rfl, hin2, k2⟩
  have HIN2 := Lib.hid hin2
  have K2 := Lib.hid (K1.out.trans k2)
  have z2 := k2.size
  clear hin2 k2
  go_wp2_with fail
  have hst := cstepped (N := 0) (w0 := w) ⟨HIN2.out, Cb.fit_new (by omega), by omega, z2⟩ 191 (by omega) (by omega) z1 K2.out (by omega)
  rw [keySt_t] at hst
  refine hst.mono ?_
  clear hst
  rintro e w3 ⟨v3, ov3, sv3, rfl, hown3, hok3, k3, z3⟩
  have HOK3 := Lib.hid (show CbOk _ _ _ _ _ _ (keySt true) from hok3)
  have K3 := Lib.hid k3
  clear hown3 hok3 k3
  simp only [keySt]
  go_wp2_with fail
  have hst := cstepped HOK3.out (63 : Int) (by omega) (by omega) z1 K3.out (by omega)
  rw [HE.out] at hst
  refine hst.mono ?_
  clear hst
  rintro e w4 ⟨v4, ov4, sv4, rfl, hown4, hok4, k4, z4⟩
  obtain ⟨a4, c4, rfl⟩ := hown4.shape
  have K4 := Lib.hid k4
  clear hown4 hok4 k4
  go_wp2_with fail
  have hall := cborAll_any ⟨#[191, 97, 97, 255]⟩ 4 w4 (by decide)
  rw [show (cborAll (⟨#[191, 97, 97, 255]⟩ : ByteArray).data.toList 4).2 = 2 from lacksValue] at hall
  refine hall.mono ?_
  clear hall
  rintro e w5 ⟨v5, rfl, hown5, k5⟩
  obtain ⟨a5, c5, rfl⟩ := hown5.shape
  have K5 := Lib.hid (K4.out.trans k5)
  clear hown5 k5
  go_wp2_with fail
  go_ret
  exact ⟨rfl, K5.out⟩

set_option maxHeartbeats 1600000 in
set_option maxRecDepth 100000 in
theorem ckey_t_c223 (x : Int) (hx : x = 223) (w : World) :
    Calls Try.prog 8 #[.int .u8 x, .bool true] w fun r w' => r = .returned (.bool true) ∧ Keeps [] w w' := by
  subst hx
  have HE := Lib.hid (show ((keySt true).step (223 : Int)).2.c.e = 2 from rfl)
  go_enter Try.func8, Try.ntmps8
  go_wp2_with fail
  refine (calive_any w).mono ?_
  rintro e w1 ⟨rfl, k1⟩
  have K1 := Lib.hid k1
  have z1 := k1.size
  clear k1
  go_wp2_with fail
  refine (cpnew_yes 4 (by omega) w1).mono ?_
  rintro e w2 ⟨rfl, hin2, k2⟩
  have HIN2 := Lib.hid hin2
  have K2 := Lib.hid (K1.out.trans k2)
  have z2 := k2.size
  clear hin2 k2
  go_wp2_with fail
  have hst := cstepped (N := 0) (w0 := w) ⟨HIN2.out, Cb.fit_new (by omega), by omega, z2⟩ 191 (by omega) (by omega) z1 K2.out (by omega)
  rw [keySt_t] at hst
  refine hst.mono ?_
  clear hst
  rintro e w3 ⟨v3, ov3, sv3, rfl, hown3, hok3, k3, z3⟩
  have HOK3 := Lib.hid (show CbOk _ _ _ _ _ _ (keySt true) from hok3)
  have K3 := Lib.hid k3
  clear hown3 hok3 k3
  simp only [keySt]
  go_wp2_with fail
  have hst := cstepped HOK3.out (223 : Int) (by omega) (by omega) z1 K3.out (by omega)
  rw [HE.out] at hst
  refine hst.mono ?_
  clear hst
  rintro e w4 ⟨v4, ov4, sv4, rfl, hown4, hok4, k4, z4⟩
  obtain ⟨a4, c4, rfl⟩ := hown4.shape
  have K4 := Lib.hid k4
  clear hown4 hok4 k4
  go_wp2_with fail
  have hall := cborAll_any ⟨#[191, 97, 97, 255]⟩ 4 w4 (by decide)
  rw [show (cborAll (⟨#[191, 97, 97, 255]⟩ : ByteArray).data.toList 4).2 = 2 from lacksValue] at hall
  refine hall.mono ?_
  clear hall
  rintro e w5 ⟨v5, rfl, hown5, k5⟩
  obtain ⟨a5, c5, rfl⟩ := hown5.shape
  have K5 := Lib.hid (K4.out.trans k5)
  clear hown5 k5
  go_wp2_with fail
  go_ret
  exact ⟨rfl, K5.out⟩

set_option maxHeartbeats 1600000 in
set_option maxRecDepth 100000 in
theorem ckey_t_c255 (x : Int) (hx : x = 255) (w : World) :
    Calls Try.prog 8 #[.int .u8 x, .bool true] w fun r w' => r = .returned (.bool true) ∧ Keeps [] w w' := by
  subst hx
  have HE := Lib.hid (show ((keySt true).step (255 : Int)).2.c.e = 0 from rfl)
  go_enter Try.func8, Try.ntmps8
  go_wp2_with fail
  refine (calive_any w).mono ?_
  rintro e w1 ⟨rfl, k1⟩
  have K1 := Lib.hid k1
  have z1 := k1.size
  clear k1
  go_wp2_with fail
  refine (cpnew_yes 4 (by omega) w1).mono ?_
  rintro e w2 ⟨rfl, hin2, k2⟩
  have HIN2 := Lib.hid hin2
  have K2 := Lib.hid (K1.out.trans k2)
  have z2 := k2.size
  clear hin2 k2
  go_wp2_with fail
  have hst := cstepped (N := 0) (w0 := w) ⟨HIN2.out, Cb.fit_new (by omega), by omega, z2⟩ 191 (by omega) (by omega) z1 K2.out (by omega)
  rw [keySt_t] at hst
  refine hst.mono ?_
  clear hst
  rintro e w3 ⟨v3, ov3, sv3, rfl, hown3, hok3, k3, z3⟩
  have HOK3 := Lib.hid (show CbOk _ _ _ _ _ _ (keySt true) from hok3)
  have K3 := Lib.hid k3
  clear hown3 hok3 k3
  simp only [keySt]
  go_wp2_with fail
  have hst := cstepped HOK3.out (255 : Int) (by omega) (by omega) z1 K3.out (by omega)
  rw [HE.out] at hst
  refine hst.mono ?_
  clear hst
  rintro e w4 ⟨v4, ov4, sv4, rfl, hown4, hok4, k4, z4⟩
  obtain ⟨a4, c4, rfl⟩ := hown4.shape
  have K4 := Lib.hid k4
  clear hown4 hok4 k4
  go_wp2_with fail
  have hall := cborAll_any ⟨#[191, 97, 97, 255]⟩ 4 w4 (by decide)
  rw [show (cborAll (⟨#[191, 97, 97, 255]⟩ : ByteArray).data.toList 4).2 = 2 from lacksValue] at hall
  refine hall.mono ?_
  clear hall
  rintro e w5 ⟨v5, rfl, hown5, k5⟩
  obtain ⟨a5, c5, rfl⟩ := hown5.shape
  have K5 := Lib.hid (K4.out.trans k5)
  clear hown5 k5
  go_wp2_with fail
  go_ret
  exact ⟨rfl, K5.out⟩

set_option maxHeartbeats 1600000 in
set_option maxRecDepth 100000 in
theorem ckey_t_c95 (x : Int) (hx : x = 95) (w : World) :
    Calls Try.prog 8 #[.int .u8 x, .bool true] w fun r w' => r = .returned (.bool true) ∧ Keeps [] w w' := by
  subst hx
  have HE := Lib.hid (show ((keySt true).step (95 : Int)).2.c.e = 8 from rfl)
  go_enter Try.func8, Try.ntmps8
  go_wp2_with fail
  refine (calive_any w).mono ?_
  rintro e w1 ⟨rfl, k1⟩
  have K1 := Lib.hid k1
  have z1 := k1.size
  clear k1
  go_wp2_with fail
  refine (cpnew_yes 4 (by omega) w1).mono ?_
  rintro e w2 ⟨rfl, hin2, k2⟩
  have HIN2 := Lib.hid hin2
  have K2 := Lib.hid (K1.out.trans k2)
  have z2 := k2.size
  clear hin2 k2
  go_wp2_with fail
  have hst := cstepped (N := 0) (w0 := w) ⟨HIN2.out, Cb.fit_new (by omega), by omega, z2⟩ 191 (by omega) (by omega) z1 K2.out (by omega)
  rw [keySt_t] at hst
  refine hst.mono ?_
  clear hst
  rintro e w3 ⟨v3, ov3, sv3, rfl, hown3, hok3, k3, z3⟩
  have HOK3 := Lib.hid (show CbOk _ _ _ _ _ _ (keySt true) from hok3)
  have K3 := Lib.hid k3
  clear hown3 hok3 k3
  simp only [keySt]
  go_wp2_with fail
  have hst := cstepped HOK3.out (95 : Int) (by omega) (by omega) z1 K3.out (by omega)
  rw [HE.out] at hst
  refine hst.mono ?_
  clear hst
  rintro e w4 ⟨v4, ov4, sv4, rfl, hown4, hok4, k4, z4⟩
  obtain ⟨a4, c4, rfl⟩ := hown4.shape
  have K4 := Lib.hid k4
  clear hown4 hok4 k4
  go_wp2_with fail
  have hall := cborAll_any ⟨#[191, 97, 97, 255]⟩ 4 w4 (by decide)
  rw [show (cborAll (⟨#[191, 97, 97, 255]⟩ : ByteArray).data.toList 4).2 = 2 from lacksValue] at hall
  refine hall.mono ?_
  clear hall
  rintro e w5 ⟨v5, rfl, hown5, k5⟩
  obtain ⟨a5, c5, rfl⟩ := hown5.shape
  have K5 := Lib.hid (K4.out.trans k5)
  clear hown5 k5
  go_wp2_with fail
  go_ret
  exact ⟨rfl, K5.out⟩

set_option maxHeartbeats 1600000 in
set_option maxRecDepth 100000 in
theorem ckey_t_c127 (x : Int) (hx : x = 127) (w : World) :
    Calls Try.prog 8 #[.int .u8 x, .bool true] w fun r w' => r = .returned (.bool true) ∧ Keeps [] w w' := by
  subst hx
  have HE := Lib.hid (show ((keySt true).step (127 : Int)).2.c.e = 0 from rfl)
  go_enter Try.func8, Try.ntmps8
  go_wp2_with fail
  refine (calive_any w).mono ?_
  rintro e w1 ⟨rfl, k1⟩
  have K1 := Lib.hid k1
  have z1 := k1.size
  clear k1
  go_wp2_with fail
  refine (cpnew_yes 4 (by omega) w1).mono ?_
  rintro e w2 ⟨rfl, hin2, k2⟩
  have HIN2 := Lib.hid hin2
  have K2 := Lib.hid (K1.out.trans k2)
  have z2 := k2.size
  clear hin2 k2
  go_wp2_with fail
  have hst := cstepped (N := 0) (w0 := w) ⟨HIN2.out, Cb.fit_new (by omega), by omega, z2⟩ 191 (by omega) (by omega) z1 K2.out (by omega)
  rw [keySt_t] at hst
  refine hst.mono ?_
  clear hst
  rintro e w3 ⟨v3, ov3, sv3, rfl, hown3, hok3, k3, z3⟩
  have HOK3 := Lib.hid (show CbOk _ _ _ _ _ _ (keySt true) from hok3)
  have K3 := Lib.hid k3
  clear hown3 hok3 k3
  simp only [keySt]
  go_wp2_with fail
  have hst := cstepped HOK3.out (127 : Int) (by omega) (by omega) z1 K3.out (by omega)
  rw [HE.out] at hst
  refine hst.mono ?_
  clear hst
  rintro e w4 ⟨v4, ov4, sv4, rfl, hown4, hok4, k4, z4⟩
  obtain ⟨a4, c4, rfl⟩ := hown4.shape
  have K4 := Lib.hid k4
  clear hown4 hok4 k4
  go_wp2_with fail
  have hall := cborAll_any ⟨#[191, 97, 97, 255]⟩ 4 w4 (by decide)
  rw [show (cborAll (⟨#[191, 97, 97, 255]⟩ : ByteArray).data.toList 4).2 = 2 from lacksValue] at hall
  refine hall.mono ?_
  clear hall
  rintro e w5 ⟨v5, rfl, hown5, k5⟩
  obtain ⟨a5, c5, rfl⟩ := hown5.shape
  have K5 := Lib.hid (K4.out.trans k5)
  clear hown5 k5
  go_wp2_with fail
  go_ret
  exact ⟨rfl, K5.out⟩

set_option maxHeartbeats 1600000 in
set_option maxRecDepth 100000 in
theorem ckey_t_c159 (x : Int) (hx : x = 159) (w : World) :
    Calls Try.prog 8 #[.int .u8 x, .bool true] w fun r w' => r = .returned (.bool true) ∧ Keeps [] w w' := by
  subst hx
  have HE := Lib.hid (show ((keySt true).step (159 : Int)).2.c.e = 8 from rfl)
  go_enter Try.func8, Try.ntmps8
  go_wp2_with fail
  refine (calive_any w).mono ?_
  rintro e w1 ⟨rfl, k1⟩
  have K1 := Lib.hid k1
  have z1 := k1.size
  clear k1
  go_wp2_with fail
  refine (cpnew_yes 4 (by omega) w1).mono ?_
  rintro e w2 ⟨rfl, hin2, k2⟩
  have HIN2 := Lib.hid hin2
  have K2 := Lib.hid (K1.out.trans k2)
  have z2 := k2.size
  clear hin2 k2
  go_wp2_with fail
  have hst := cstepped (N := 0) (w0 := w) ⟨HIN2.out, Cb.fit_new (by omega), by omega, z2⟩ 191 (by omega) (by omega) z1 K2.out (by omega)
  rw [keySt_t] at hst
  refine hst.mono ?_
  clear hst
  rintro e w3 ⟨v3, ov3, sv3, rfl, hown3, hok3, k3, z3⟩
  have HOK3 := Lib.hid (show CbOk _ _ _ _ _ _ (keySt true) from hok3)
  have K3 := Lib.hid k3
  clear hown3 hok3 k3
  simp only [keySt]
  go_wp2_with fail
  have hst := cstepped HOK3.out (159 : Int) (by omega) (by omega) z1 K3.out (by omega)
  rw [HE.out] at hst
  refine hst.mono ?_
  clear hst
  rintro e w4 ⟨v4, ov4, sv4, rfl, hown4, hok4, k4, z4⟩
  obtain ⟨a4, c4, rfl⟩ := hown4.shape
  have K4 := Lib.hid k4
  clear hown4 hok4 k4
  go_wp2_with fail
  have hall := cborAll_any ⟨#[191, 97, 97, 255]⟩ 4 w4 (by decide)
  rw [show (cborAll (⟨#[191, 97, 97, 255]⟩ : ByteArray).data.toList 4).2 = 2 from lacksValue] at hall
  refine hall.mono ?_
  clear hall
  rintro e w5 ⟨v5, rfl, hown5, k5⟩
  obtain ⟨a5, c5, rfl⟩ := hown5.shape
  have K5 := Lib.hid (K4.out.trans k5)
  clear hown5 k5
  go_wp2_with fail
  go_ret
  exact ⟨rfl, K5.out⟩

set_option maxHeartbeats 1600000 in
set_option maxRecDepth 100000 in
theorem ckey_t_c191 (x : Int) (hx : x = 191) (w : World) :
    Calls Try.prog 8 #[.int .u8 x, .bool true] w fun r w' => r = .returned (.bool true) ∧ Keeps [] w w' := by
  subst hx
  have HE := Lib.hid (show ((keySt true).step (191 : Int)).2.c.e = 8 from rfl)
  go_enter Try.func8, Try.ntmps8
  go_wp2_with fail
  refine (calive_any w).mono ?_
  rintro e w1 ⟨rfl, k1⟩
  have K1 := Lib.hid k1
  have z1 := k1.size
  clear k1
  go_wp2_with fail
  refine (cpnew_yes 4 (by omega) w1).mono ?_
  rintro e w2 ⟨rfl, hin2, k2⟩
  have HIN2 := Lib.hid hin2
  have K2 := Lib.hid (K1.out.trans k2)
  have z2 := k2.size
  clear hin2 k2
  go_wp2_with fail
  have hst := cstepped (N := 0) (w0 := w) ⟨HIN2.out, Cb.fit_new (by omega), by omega, z2⟩ 191 (by omega) (by omega) z1 K2.out (by omega)
  rw [keySt_t] at hst
  refine hst.mono ?_
  clear hst
  rintro e w3 ⟨v3, ov3, sv3, rfl, hown3, hok3, k3, z3⟩
  have HOK3 := Lib.hid (show CbOk _ _ _ _ _ _ (keySt true) from hok3)
  have K3 := Lib.hid k3
  clear hown3 hok3 k3
  simp only [keySt]
  go_wp2_with fail
  have hst := cstepped HOK3.out (191 : Int) (by omega) (by omega) z1 K3.out (by omega)
  rw [HE.out] at hst
  refine hst.mono ?_
  clear hst
  rintro e w4 ⟨v4, ov4, sv4, rfl, hown4, hok4, k4, z4⟩
  obtain ⟨a4, c4, rfl⟩ := hown4.shape
  have K4 := Lib.hid k4
  clear hown4 hok4 k4
  go_wp2_with fail
  have hall := cborAll_any ⟨#[191, 97, 97, 255]⟩ 4 w4 (by decide)
  rw [show (cborAll (⟨#[191, 97, 97, 255]⟩ : ByteArray).data.toList 4).2 = 2 from lacksValue] at hall
  refine hall.mono ?_
  clear hall
  rintro e w5 ⟨v5, rfl, hown5, k5⟩
  obtain ⟨a5, c5, rfl⟩ := hown5.shape
  have K5 := Lib.hid (K4.out.trans k5)
  clear hown5 k5
  go_wp2_with fail
  go_ret
  exact ⟨rfl, K5.out⟩

theorem cborinKeys_walk (x : Int) (opn : Bool) (w : World) (hx : 0 ≤ x ∧ x ≤ 255) :
    Calls Try.prog 8 #[.int .u8 x, .bool opn] w fun r w' => r = .returned (.bool true) ∧ Below w.heap.size w w' := by
  refine Calls.mono (R := fun r w' => r = .returned (.bool true) ∧ Keeps [] w w') ?_ (fun r w' h => ⟨h.1, h.2.all⟩)
  have hw1 : x % 32 < 28 ∨ x % 32 = 28 ∨ x % 32 = 29 ∨ x % 32 = 30 ∨ x % 32 = 31 := by omega
  have hw2 : x % 32 = 31 → x = 31 ∨ x = 63 ∨ x = 95 ∨ x = 127 ∨ x = 159 ∨ x = 191 ∨ x = 223 ∨ x = 255 := by omega
  cases opn with
  | false =>
    rcases hw1 with h | h | h | h | h
    · by_cases g : x / 32 = 3
      · exact ckey_f_text x hx.1 hx.2 g h w
      · exact ckey_f_other x hx.1 hx.2 g h w
    · exact ckey_f_low28 x hx.1 hx.2 h w
    · exact ckey_f_low29 x hx.1 hx.2 h w
    · exact ckey_f_low30 x hx.1 hx.2 h w
    · rcases hw2 h with g | g | g | g | g | g | g | g
      · exact ckey_f_c31 x g w
      · exact ckey_f_c63 x g w
      · exact ckey_f_c95 x g w
      · exact ckey_f_c127 x g w
      · exact ckey_f_c159 x g w
      · exact ckey_f_c191 x g w
      · exact ckey_f_c223 x g w
      · exact ckey_f_c255 x g w
  | true =>
    rcases hw1 with h | h | h | h | h
    · by_cases g : x / 32 = 3
      · exact ckey_t_text x hx.1 hx.2 g h w
      · exact ckey_t_other x hx.1 hx.2 g h w
    · exact ckey_t_low28 x hx.1 hx.2 h w
    · exact ckey_t_low29 x hx.1 hx.2 h w
    · exact ckey_t_low30 x hx.1 hx.2 h w
    · rcases hw2 h with g | g | g | g | g | g | g | g
      · exact ckey_t_c31 x g w
      · exact ckey_t_c63 x g w
      · exact ckey_t_c95 x g w
      · exact ckey_t_c127 x g w
      · exact ckey_t_c159 x g w
      · exact ckey_t_c191 x g w
      · exact ckey_t_c223 x g w
      · exact ckey_t_c255 x g w
end Go.Proofs.Ytepajbimhpmpjaa
