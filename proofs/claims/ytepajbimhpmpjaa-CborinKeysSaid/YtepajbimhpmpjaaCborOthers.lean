/-
  CborinOthers' walk.
-/
import Derived.Test.YtepajbimhpmpjaaCborAlive
namespace Go.Tru
def othSt : Nat → Cb
  | 0 => Cb.new 4
  | 1 => ⟨⟨4, [⟨false, -1, 0⟩], false, 0, false, false, 0, [], Chk.zero⟩, Hd.zero, false⟩
  | _ => ⟨⟨4, [⟨false, -1, 1⟩], false, 0, false, false, 0, [], Chk.zero⟩, Hd.zero, false⟩
theorem othSt_0 : (othSt 0).step 159 = ([evArr (-1)], othSt 1) := by rfl
theorem othSt_1 : (othSt 1).step 1 = ([evInt false 1], othSt 2) := by rfl

/-- between items, no key -/
structure Plainly (p : Cb) : Prop where
  e : p.c.e = 0
  lack : p.c.lack = 0
  begun : p.begun = false
  chunks : p.c.chunks = false
  done : p.c.done = false
  key : p.c.atKey = false
  full : p.c.full = false
  s : p.c.s = []
theorem plainly_0 : Plainly (othSt 0) := ⟨rfl, rfl, rfl, rfl, rfl, rfl, rfl, rfl⟩
theorem plainly_2 : Plainly (othSt 2) := ⟨rfl, rfl, rfl, rfl, rfl, rfl, rfl, rfl⟩
theorem Plainly.item {p : Cb} (h : Plainly p) (x : Int) : p.step x = p.item x := by
  unfold Cb.step
  rw [if_neg (by simp [h.e]), if_neg (by simp [h.lack]), if_neg (by simp [h.begun]), if_neg (by simp [h.chunks])]
theorem Plainly.low {p : Cb} (h : Plainly p) {x : Int} (hl : 28 ≤ x % 32 ∧ x % 32 < 31) : (p.step x).2.c.e = 2 := by
  rw [h.item]
  unfold Cb.item
  rw [if_neg (by simp [h.done]), if_pos (Or.inl hl)]
  rfl
theorem Plainly.tag {p : Cb} (h : Plainly p) {x : Int} (hm : x / 32 = 6) (hl : x % 32 < 28) : (p.step x).2.c.e = 8 := by
  rw [h.item]
  unfold Cb.item
  rw [if_neg (by simp [h.done]), if_neg (by omega), if_neg (by omega), if_pos (Or.inr hm)]
  rfl
theorem Plainly.simp_ {p : Cb} (h : Plainly p) {x : Int} (hm : x / 32 = 7) (hl : x % 32 < 20) : (p.step x).2.c.e = 8 := by
  rw [h.item]
  unfold Cb.item
  rw [if_neg (by simp [h.done]), if_neg (by omega), if_neg (by omega), if_neg (by simp [h.key]; omega), if_pos hm]
  unfold Cb.simple
  rw [if_neg (by omega), if_neg (by omega), if_neg (by omega)]
  rfl
theorem Plainly.head {p : Cb} (h : Plainly p) {x : Int} (hm : x / 32 ≤ 5) (hl : x % 32 < 28) : (p.step x).2.c.e = 0 := by
  rw [h.item]
  unfold Cb.item
  rw [if_neg (by simp [h.done]), if_neg (by omega), if_neg (by omega), if_neg (by simp [h.key]; omega), if_neg (by omega), if_neg (by simp [h.full])]
  unfold Cb.first
  split
  · unfold Cb.told
    split
    · exact h.e
    split
    · rw [if_neg (by decide)]
      show (p.c.length (decide (x / 32 = 3)) (x % 32)).2.e = 0
      unfold Core.length
      rw [h.s, if_neg (by simp; omega)]
      simp only []
      split
      · exact h.e
      · exact h.e
    rw [if_neg (by decide), if_neg (by omega)]
    show (p.c.begin (decide (x / 32 = 5)) (x % 32)).2.e = 0
    unfold Core.begin
    split
    · exact h.e
    · exact h.e
  exact h.e
end Go.Tru
namespace Go.Proofs.Ytepajbimhpmpjaa
open Go.RowKit Go.Tru

theorem cstepped {N : Int} {w0 w : World} {b : Nat} {ov sv : Value} {p : Cb} (h : CbOk N w b b ov sv p) (x : Int) (hx0 : 0 ≤ x) (hx1 : x ≤ 255) (hw : w0.heap.size ≤ b) (k : Keeps [] w0 w) (hbig : 0 ≤ N + 1 ∧ N + 1 ≤ 100000000) :
    Calls Try.prog 22 #[.pointer (some ⟨b, 0, none⟩), .int .u8 x] w fun r w' => ∃ v ov' sv', r = .returned (.tuple #[v, .int .i64 (p.step x).2.c.e]) ∧ OwnsAny w' w.heap.size v (p.step x).1 ∧ CbOk (N + 1) w' b b ov' sv' (p.step x).2 ∧ Keeps [] w0 w' ∧ w.heap.size ≤ w'.heap.size := by
  refine (cpstep_any h x hx0 hx1).mono ?_
  rintro e w' ⟨v, rfl, hown, ov', sv', hin, hk, _⟩
  have hlow := coBlks_base h.in_ (Nat.le_refl _)
  exact ⟨v, ov', sv', rfl, hown, ⟨hin, Cb.fit_step h.big.1 h.fit ⟨hx0, hx1⟩, hbig, Nat.le_trans h.base_ hk.size⟩, k.trans' hk (fun i hi => Or.inr (Nat.le_trans hw (hlow i hi))), hk.size⟩

def OthRel (n : Nat) (w : World) (g : Nat) (i : Value) (wr : World) : Prop :=
  ∃ (k : Nat) (ov sv : Value), k ≤ n ∧ i = .int .i64 k ∧ CbOk k wr g g ov sv (othSt k) ∧ Keeps [] w wr

set_option maxHeartbeats 1600000 in
set_option maxRecDepth 100000 in
theorem coth_f_low28 (x : Int) (hx0 : 0 ≤ x) (hx1 : x ≤ 255) (hl : x % 32 = 28) (w : World) :
    Calls Try.prog 7 #[.int .u8 x, .bool false] w fun r w' => r = .returned (.bool true) ∧ Keeps [] w w' := by
  have hand := pk_and31 hx0 hx1
  rw [hl] at hand
  have HE := Lib.hid (show ((othSt 0).step x).2.c.e = 2 from plainly_0.low (by omega))
  go_enter Try.func7, Try.ntmps7
  go_wp2_with fail
  refine (calive_any w).mono ?_
  rintro e w1 ⟨rfl, k1⟩
  have K1 := Lib.hid k1
  have z1 := k1.size
  clear k1
  go_wp2_with fail
  refine (cpnew_yes 4 (by omega) w1).mono ?_
  rintro e w2 ⟨rfl, hin2, k2⟩
  have HIN2 := Lib.hid hin2
  have K2 := Lib.hid (K1.out.trans k2)
  have z2 := k2.size
  clear hin2 k2
  go_wp2_with fail
  go_loopw [11] (fun i wr => OthRel 0 w w1.heap.size i wr) (fun i _ => 0 - (intOf i).toNat)
  case atStart => exact ⟨0, _, _, Nat.zero_le _, rfl, ⟨HIN2.out, Cb.fit_new (by omega), by omega, z2⟩, K2.out⟩
  case round =>
    obtain ⟨k, ov, sv, hk, rfl, hok, hK⟩ := hrel
    have HOK := Lib.hid hok
    have HK := Lib.hid hK
    clear hok hK
    obtain rfl : k = 0 := by omega
    go_wp2_with fail
    have hst := cstepped HOK.out x (by omega) (by omega) z1 HK.out (by omega)
    rw [HE.out] at hst
    refine hst.mono ?_
    clear hst
    rintro e w4 ⟨v4, ov4, sv4, rfl, hown4, hok4, k4, z4⟩
    obtain ⟨a4, c4, rfl⟩ := hown4.shape
    have K4 := Lib.hid k4
    clear hown4 hok4 k4
    go_wp2_with fail
    go_ret
    exact ⟨rfl, K4.out⟩

set_option maxHeartbeats 1600000 in
set_option maxRecDepth 100000 in
theorem coth_f_low29 (x : Int) (hx0 : 0 ≤ x) (hx1 : x ≤ 255) (hl : x % 32 = 29) (w : World) :
    Calls Try.prog 7 #[.int .u8 x, .bool false] w fun r w' => r = .returned (.bool true) ∧ Keeps [] w w' := by
  have hand := pk_and31 hx0 hx1
  rw [hl] at hand
  have HE := Lib.hid (show ((othSt 0).step x).2.c.e = 2 from plainly_0.low (by omega))
  go_enter Try.func7, Try.ntmps7
  go_wp2_with fail
  refine (calive_any w).mono ?_
  rintro e w1 ⟨rfl, k1⟩
  have K1 := Lib.hid k1
  have z1 := k1.size
  clear k1
  go_wp2_with fail
  refine (cpnew_yes 4 (by omega) w1).mono ?_
  rintro e w2 ⟨rfl, hin2, k2⟩
  have HIN2 := Lib.hid hin2
  have K2 := Lib.hid (K1.out.trans k2)
  have z2 := k2.size
  clear hin2 k2
  go_wp2_with fail
  go_loopw [11] (fun i wr => OthRel 0 w w1.heap.size i wr) (fun i _ => 0 - (intOf i).toNat)
  case atStart => exact ⟨0, _, _, Nat.zero_le _, rfl, ⟨HIN2.out, Cb.fit_new (by omega), by omega, z2⟩, K2.out⟩
  case round =>
    obtain ⟨k, ov, sv, hk, rfl, hok, hK⟩ := hrel
    have HOK := Lib.hid hok
    have HK := Lib.hid hK
    clear hok hK
    obtain rfl : k = 0 := by omega
    go_wp2_with fail
    have hst := cstepped HOK.out x (by omega) (by omega) z1 HK.out (by omega)
    rw [HE.out] at hst
    refine hst.mono ?_
    clear hst
    rintro e w4 ⟨v4, ov4, sv4, rfl, hown4, hok4, k4, z4⟩
    obtain ⟨a4, c4, rfl⟩ := hown4.shape
    have K4 := Lib.hid k4
    clear hown4 hok4 k4
    go_wp2_with fail
    go_ret
    exact ⟨rfl, K4.out⟩

set_option maxHeartbeats 1600000 in
set_option maxRecDepth 100000 in
theorem coth_f_low30 (x : Int) (hx0 : 0 ≤ x) (hx1 : x ≤ 255) (hl : x % 32 = 30) (w : World) :
    Calls Try.prog 7 #[.int .u8 x, .bool false] w fun r w' => r = .returned (.bool true) ∧ Keeps [] w w' := by
  have hand := pk_and31 hx0 hx1
  rw [hl] at hand
  have HE := Lib.hid (show ((othSt 0).step x).2.c.e = 2 from plainly_0.low (by omega))
  go_enter Try.func7, Try.ntmps7
  go_wp2_with fail
  refine (calive_any w).mono ?_
  rintro e w1 ⟨rfl, k1⟩
  have K1 := Lib.hid k1
  have z1 := k1.size
  clear k1
  go_wp2_with fail
  refine (cpnew_yes 4 (by omega) w1).mono ?_
  rintro e w2 ⟨rfl, hin2, k2⟩
  have HIN2 := Lib.hid hin2
  have K2 := Lib.hid (K1.out.trans k2)
  have z2 := k2.size
  clear hin2 k2
  go_wp2_with fail
  go_loopw [11] (fun i wr => OthRel 0 w w1.heap.size i wr) (fun i _ => 0 - (intOf i).toNat)
  case atStart => exact ⟨0, _, _, Nat.zero_le _, rfl, ⟨HIN2.out, Cb.fit_new (by omega), by omega, z2⟩, K2.out⟩
  case round =>
    obtain ⟨k, ov, sv, hk, rfl, hok, hK⟩ := hrel
    have HOK := Lib.hid hok
    have HK := Lib.hid hK
    clear hok hK
    obtain rfl : k = 0 := by omega
    go_wp2_with fail
    have hst := cstepped HOK.out x (by omega) (by omega) z1 HK.out (by omega)
    rw [HE.out] at hst
    refine hst.mono ?_
    clear hst
    rintro e w4 ⟨v4, ov4, sv4, rfl, hown4, hok4, k4, z4⟩
    obtain ⟨a4, c4, rfl⟩ := hown4.shape
    have K4 := Lib.hid k4
    clear hown4 hok4 k4
    go_wp2_with fail
    go_ret
    exact ⟨rfl, K4.out⟩

set_option maxHeartbeats 1600000 in
set_option maxRecDepth 100000 in
theorem coth_f_tag (x : Int) (hx0 : 0 ≤ x) (hx1 : x ≤ 255) (hm : x / 32 = 6) (hl : x % 32 < 28) (w : World) :
    Calls Try.prog 7 #[.int .u8 x, .bool false] w fun r w' => r = .returned (.bool true) ∧ Keeps [] w w' := by
  have hand := pk_and31 hx0 hx1
  have hl1 : ¬ 28 ≤ x % 32 := by omega
  have hl2 : (x % 32 == 31) = false := by simp; omega
  have hxb : (x == 255) = false := by simp; omega
  have HE := Lib.hid (show ((othSt 0).step x).2.c.e = 8 from plainly_0.tag (by omega) (by omega))
  go_enter Try.func7, Try.ntmps7
  go_wp2_with fail
  refine (calive_any w).mono ?_
  rintro e w1 ⟨rfl, k1⟩
  have K1 := Lib.hid k1
  have z1 := k1.size
  clear k1
  go_wp2_with fail
  refine (cpnew_yes 4 (by omega) w1).mono ?_
  rintro e w2 ⟨rfl, hin2, k2⟩
  have HIN2 := Lib.hid hin2
  have K2 := Lib.hid (K1.out.trans k2)
  have z2 := k2.size
  clear hin2 k2
  go_wp2_with fail
  go_loopw [11] (fun i wr => OthRel 0 w w1.heap.size i wr) (fun i _ => 0 - (intOf i).toNat)
  case atStart => exact ⟨0, _, _, Nat.zero_le _, rfl, ⟨HIN2.out, Cb.fit_new (by omega), by omega, z2⟩, K2.out⟩
  case round =>
    obtain ⟨k, ov, sv, hk, rfl, hok, hK⟩ := hrel
    have HOK := Lib.hid hok
    have HK := Lib.hid hK
    clear hok hK
    obtain rfl : k = 0 := by omega
    go_wp2_with fail
    have hst := cstepped HOK.out x (by omega) (by omega) z1 HK.out (by omega)
    rw [HE.out] at hst
    refine hst.mono ?_
    clear hst
    rintro e w4 ⟨v4, ov4, sv4, rfl, hown4, hok4, k4, z4⟩
    obtain ⟨a4, c4, rfl⟩ := hown4.shape
    have K4 := Lib.hid k4
    clear hown4 hok4 k4
    go_wp2_with fail
    go_ret
    exact ⟨rfl, K4.out⟩

set_option maxHeartbeats 1600000 in
set_option maxRecDepth 100000 in
theorem coth_f_simp (x : Int) (hx0 : 0 ≤ x) (hx1 : x ≤ 255) (hm : x / 32 = 7) (hl : x % 32 < 20) (w : World) :
    Calls Try.prog 7 #[.int .u8 x, .bool false] w fun r w' => r = .returned (.bool true) ∧ Keeps [] w w' := by
  have hand := pk_and31 hx0 hx1
  have hl3 : ¬ 25 ≤ x % 32 := by omega
  have hl1 : ¬ 28 ≤ x % 32 := by omega
  have hl2 : (x % 32 == 31) = false := by simp; omega
  have hxb : (x == 255) = false := by simp; omega
  have HE := Lib.hid (show ((othSt 0).step x).2.c.e = 8 from plainly_0.simp_ (by omega) (by omega))
  go_enter Try.func7, Try.ntmps7
  go_wp2_with fail
  refine (calive_any w).mono ?_
  rintro e w1 ⟨rfl, k1⟩
  have K1 := Lib.hid k1
  have z1 := k1.size
  clear k1
  go_wp2_with fail
  refine (cpnew_yes 4 (by omega) w1).mono ?_
  rintro e w2 ⟨rfl, hin2, k2⟩
  have HIN2 := Lib.hid hin2
  have K2 := Lib.hid (K1.out.trans k2)
  have z2 := k2.size
  clear hin2 k2
  go_wp2_with fail
  go_loopw [11] (fun i wr => OthRel 0 w w1.heap.size i wr) (fun i _ => 0 - (intOf i).toNat)
  case atStart => exact ⟨0, _, _, Nat.zero_le _, rfl, ⟨HIN2.out, Cb.fit_new (by omega), by omega, z2⟩, K2.out⟩
  case round =>
    obtain ⟨k, ov, sv, hk, rfl, hok, hK⟩ := hrel
    have HOK := Lib.hid hok
    have HK := Lib.hid hK
    clear hok hK
    obtain rfl : k = 0 := by omega
    go_wp2_with fail
    have hst := cstepped HOK.out x (by omega) (by omega) z1 HK.out (by omega)
    rw [HE.out] at hst
    refine hst.mono ?_
    clear hst
    rintro e w4 ⟨v4, ov4, sv4, rfl, hown4, hok4, k4, z4⟩
    obtain ⟨a4, c4, rfl⟩ := hown4.shape
    have K4 := Lib.hid k4
    clear hown4 hok4 k4
    go_wp2_with fail
    go_ret
    exact ⟨rfl, K4.out⟩

set_option maxHeartbeats 1600000 in
set_option maxRecDepth 100000 in
theorem coth_f_head (x : Int) (hx0 : 0 ≤ x) (hx1 : x ≤ 255) (hm : x / 32 ≤ 5) (hl : x % 32 < 28) (w : World) :
    Calls Try.prog 7 #[.int .u8 x, .bool false] w fun r w' => r = .returned (.bool true) ∧ Keeps [] w w' := by
  have hand := pk_and31 hx0 hx1
  have hm6 : (x / 32 == 6) = false := by simp; omega
  have hm7 : (x / 32 == 7) = false := by simp; omega
  have hl1 : ¬ 28 ≤ x % 32 := by omega
  have hl2 : (x % 32 == 31) = false := by simp; omega
  have hxb : (x == 255) = false := by simp; omega
  have HE := Lib.hid (show ((othSt 0).step x).2.c.e = 0 from plainly_0.head (by omega) (by omega))
  go_enter Try.func7, Try.ntmps7
  go_wp2_with fail
  refine (calive_any w).mono ?_
  rintro e w1 ⟨rfl, k1⟩
  have K1 := Lib.hid k1
  have z1 := k1.size
  clear k1
  go_wp2_with fail
  refine (cpnew_yes 4 (by omega) w1).mono ?_
  rintro e w2 ⟨rfl, hin2, k2⟩
  have HIN2 := Lib.hid hin2
  have K2 := Lib.hid (K1.out.trans k2)
  have z2 := k2.size
  clear hin2 k2
  go_wp2_with fail
  go_loopw [11] (fun i wr => OthRel 0 w w1.heap.size i wr) (fun i _ => 0 - (intOf i).toNat)
  case atStart => exact ⟨0, _, _, Nat.zero_le _, rfl, ⟨HIN2.out, Cb.fit_new (by omega), by omega, z2⟩, K2.out⟩
  case round =>
    obtain ⟨k, ov, sv, hk, rfl, hok, hK⟩ := hrel
    have HOK := Lib.hid hok
    have HK := Lib.hid hK
    clear hok hK
    obtain rfl : k = 0 := by omega
    go_wp2_with fail
    have hst := cstepped HOK.out x (by omega) (by omega) z1 HK.out (by omega)
    rw [HE.out] at hst
    refine hst.mono ?_
    clear hst
    rintro e w4 ⟨v4, ov4, sv4, rfl, hown4, hok4, k4, z4⟩
    obtain ⟨a4, c4, rfl⟩ := hown4.shape
    have K4 := Lib.hid k4
    clear hown4 hok4 k4
    go_wp2_with fail
    go_ret
    exact ⟨rfl, K4.out⟩

set_option maxHeartbeats 1600000 in
set_option maxRecDepth 100000 in
theorem coth_f_c31 (x : Int) (hx : x = 31) (w : World) :
    Calls Try.prog 7 #[.int .u8 x, .bool false] w fun r w' => r = .returned (.bool true) ∧ Keeps [] w w' := by
  subst hx
  have HE := Lib.hid (show ((othSt 0).step (31 : Int)).2.c.e = 2 from rfl)
  go_enter Try.func7, Try.ntmps7
  go_wp2_with fail
  refine (calive_any w).mono ?_
  rintro e w1 ⟨rfl, k1⟩
  have K1 := Lib.hid k1
  have z1 := k1.size
  clear k1
  go_wp2_with fail
  refine (cpnew_yes 4 (by omega) w1).mono ?_
  rintro e w2 ⟨rfl, hin2, k2⟩
  have HIN2 := Lib.hid hin2
  have K2 := Lib.hid (K1.out.trans k2)
  have z2 := k2.size
  clear hin2 k2
  go_wp2_with fail
  go_loopw [11] (fun i wr => OthRel 0 w w1.heap.size i wr) (fun i _ => 0 - (intOf i).toNat)
  case atStart => exact ⟨0, _, _, Nat.zero_le _, rfl, ⟨HIN2.out, Cb.fit_new (by omega), by omega, z2⟩, K2.out⟩
  case round =>
    obtain ⟨k, ov, sv, hk, rfl, hok, hK⟩ := hrel
    have HOK := Lib.hid hok
    have HK := Lib.hid hK
    clear hok hK
    obtain rfl : k = 0 := by omega
    go_wp2_with fail
    have hst := cstepped HOK.out (31 : Int) (by omega) (by omega) z1 HK.out (by omega)
    rw [HE.out] at hst
    refine hst.mono ?_
    clear hst
    rintro e w4 ⟨v4, ov4, sv4, rfl, hown4, hok4, k4, z4⟩
    obtain ⟨a4, c4, rfl⟩ := hown4.shape
    have K4 := Lib.hid k4
    clear hown4 hok4 k4
    go_wp2_with fail
    go_ret
    exact ⟨rfl, K4.out⟩

set_option maxHeartbeats 1600000 in
set_option maxRecDepth 100000 in
theorem coth_f_c63 (x : Int) (hx : x = 63) (w : World) :
    Calls Try.prog 7 #[.int .u8 x, .bool false] w fun r w' => r = .returned (.bool true) ∧ Keeps [] w w' := by
  subst hx
  have HE := Lib.hid (show ((othSt 0).step (63 : Int)).2.c.e = 2 from rfl)
  go_enter Try.func7, Try.ntmps7
  go_wp2_with fail
  refine (calive_any w).mono ?_
  rintro e w1 ⟨rfl, k1⟩
  have K1 := Lib.hid k1
  have z1 := k1.size
  clear k1
  go_wp2_with fail
  refine (cpnew_yes 4 (by omega) w1).mono ?_
  rintro e w2 ⟨rfl, hin2, k2⟩
  have HIN2 := Lib.hid hin2
  have K2 := Lib.hid (K1.out.trans k2)
  have z2 := k2.size
  clear hin2 k2
  go_wp2_with fail
  go_loopw [11] (fun i wr => OthRel 0 w w1.heap.size i wr) (fun i _ => 0 - (intOf i).toNat)
  case atStart => exact ⟨0, _, _, Nat.zero_le _, rfl, ⟨HIN2.out, Cb.fit_new (by omega), by omega, z2⟩, K2.out⟩
  case round =>
    obtain ⟨k, ov, sv, hk, rfl, hok, hK⟩ := hrel
    have HOK := Lib.hid hok
    have HK := Lib.hid hK
    clear hok hK
    obtain rfl : k = 0 := by omega
    go_wp2_with fail
    have hst := cstepped HOK.out (63 : Int) (by omega) (by omega) z1 HK.out (by omega)
    rw [HE.out] at hst
    refine hst.mono ?_
    clear hst
    rintro e w4 ⟨v4, ov4, sv4, rfl, hown4, hok4, k4, z4⟩
    obtain ⟨a4, c4, rfl⟩ := hown4.shape
    have K4 := Lib.hid k4
    clear hown4 hok4 k4
    go_wp2_with fail
    go_ret
    exact ⟨rfl, K4.out⟩

set_option maxHeartbeats 1600000 in
set_option maxRecDepth 100000 in
theorem coth_f_c223 (x : Int) (hx : x = 223) (w : World) :
    Calls Try.prog 7 #[.int .u8 x, .bool false] w fun r w' => r = .returned (.bool true) ∧ Keeps [] w w' := by
  subst hx
  have HE := Lib.hid (show ((othSt 0).step (223 : Int)).2.c.e = 2 from rfl)
  go_enter Try.func7, Try.ntmps7
  go_wp2_with fail
  refine (calive_any w).mono ?_
  rintro e w1 ⟨rfl, k1⟩
  have K1 := Lib.hid k1
  have z1 := k1.size
  clear k1
  go_wp2_with fail
  refine (cpnew_yes 4 (by omega) w1).mono ?_
  rintro e w2 ⟨rfl, hin2, k2⟩
  have HIN2 := Lib.hid hin2
  have K2 := Lib.hid (K1.out.trans k2)
  have z2 := k2.size
  clear hin2 k2
  go_wp2_with fail
  go_loopw [11] (fun i wr => OthRel 0 w w1.heap.size i wr) (fun i _ => 0 - (intOf i).toNat)
  case atStart => exact ⟨0, _, _, Nat.zero_le _, rfl, ⟨HIN2.out, Cb.fit_new (by omega), by omega, z2⟩, K2.out⟩
  case round =>
    obtain ⟨k, ov, sv, hk, rfl, hok, hK⟩ := hrel
    have HOK := Lib.hid hok
    have HK := Lib.hid hK
    clear hok hK
    obtain rfl : k = 0 := by omega
    go_wp2_with fail
    have hst := cstepped HOK.out (223 : Int) (by omega) (by omega) z1 HK.out (by omega)
    rw [HE.out] at hst
    refine hst.mono ?_
    clear hst
    rintro e w4 ⟨v4, ov4, sv4, rfl, hown4, hok4, k4, z4⟩
    obtain ⟨a4, c4, rfl⟩ := hown4.shape
    have K4 := Lib.hid k4
    clear hown4 hok4 k4
    go_wp2_with fail
    go_ret
    exact ⟨rfl, K4.out⟩

set_option maxHeartbeats 1600000 in
set_option maxRecDepth 100000 in
theorem coth_f_c255 (x : Int) (hx : x = 255) (w : World) :
    Calls Try.prog 7 #[.int .u8 x, .bool false] w fun r w' => r = .returned (.bool true) ∧ Keeps [] w w' := by
  subst hx
  have HE := Lib.hid (show ((othSt 0).step (255 : Int)).2.c.e = 2 from rfl)
  go_enter Try.func7, Try.ntmps7
  go_wp2_with fail
  refine (calive_any w).mono ?_
  rintro e w1 ⟨rfl, k1⟩
  have K1 := Lib.hid k1
  have z1 := k1.size
  clear k1
  go_wp2_with fail
  refine (cpnew_yes 4 (by omega) w1).mono ?_
  rintro e w2 ⟨rfl, hin2, k2⟩
  have HIN2 := Lib.hid hin2
  have K2 := Lib.hid (K1.out.trans k2)
  have z2 := k2.size
  clear hin2 k2
  go_wp2_with fail
  go_loopw [11] (fun i wr => OthRel 0 w w1.heap.size i wr) (fun i _ => 0 - (intOf i).toNat)
  case atStart => exact ⟨0, _, _, Nat.zero_le _, rfl, ⟨HIN2.out, Cb.fit_new (by omega), by omega, z2⟩, K2.out⟩
  case round =>
    obtain ⟨k, ov, sv, hk, rfl, hok, hK⟩ := hrel
    have HOK := Lib.hid hok
    have HK := Lib.hid hK
    clear hok hK
    obtain rfl : k = 0 := by omega
    go_wp2_with fail
    have hst := cstepped HOK.out (255 : Int) (by omega) (by omega) z1 HK.out (by omega)
    rw [HE.out] at hst
    refine hst.mono ?_
    clear hst
    rintro e w4 ⟨v4, ov4, sv4, rfl, hown4, hok4, k4, z4⟩
    obtain ⟨a4, c4, rfl⟩ := hown4.shape
    have K4 := Lib.hid k4
    clear hown4 hok4 k4
    go_wp2_with fail
    go_ret
    exact ⟨rfl, K4.out⟩

set_option maxHeartbeats 1600000 in
set_option maxRecDepth 100000 in
theorem coth_f_c249 (x : Int) (hx : x = 249) (w : World) :
    Calls Try.prog 7 #[.int .u8 x, .bool false] w fun r w' => r = .returned (.bool true) ∧ Keeps [] w w' := by
  subst hx
  have HE := Lib.hid (show ((othSt 0).step (249 : Int)).2.c.e = 6 from rfl)
  go_enter Try.func7, Try.ntmps7
  go_wp2_with fail
  refine (calive_any w).mono ?_
  rintro e w1 ⟨rfl, k1⟩
  have K1 := Lib.hid k1
  have z1 := k1.size
  clear k1
  go_wp2_with fail
  refine (cpnew_yes 4 (by omega) w1).mono ?_
  rintro e w2 ⟨rfl, hin2, k2⟩
  have HIN2 := Lib.hid hin2
  have K2 := Lib.hid (K1.out.trans k2)
  have z2 := k2.size
  clear hin2 k2
  go_wp2_with fail
  go_loopw [11] (fun i wr => OthRel 0 w w1.heap.size i wr) (fun i _ => 0 - (intOf i).toNat)
  case atStart => exact ⟨0, _, _, Nat.zero_le _, rfl, ⟨HIN2.out, Cb.fit_new (by omega), by omega, z2⟩, K2.out⟩
  case round =>
    obtain ⟨k, ov, sv, hk, rfl, hok, hK⟩ := hrel
    have HOK := Lib.hid hok
    have HK := Lib.hid hK
    clear hok hK
    obtain rfl : k = 0 := by omega
    go_wp2_with fail
    have hst := cstepped HOK.out (249 : Int) (by omega) (by omega) z1 HK.out (by omega)
    rw [HE.out] at hst
    refine hst.mono ?_
    clear hst
    rintro e w4 ⟨v4, ov4, sv4, rfl, hown4, hok4, k4, z4⟩
    obtain ⟨a4, c4, rfl⟩ := hown4.shape
    have K4 := Lib.hid k4
    clear hown4 hok4 k4
    go_wp2_with fail
    go_ret
    exact ⟨rfl, K4.out⟩

set_option maxHeartbeats 1600000 in
set_option maxRecDepth 100000 in
theorem coth_f_c250 (x : Int) (hx : x = 250) (w : World) :
    Calls Try.prog 7 #[.int .u8 x, .bool false] w fun r w' => r = .returned (.bool true) ∧ Keeps [] w w' := by
  subst hx
  have HE := Lib.hid (show ((othSt 0).step (250 : Int)).2.c.e = 6 from rfl)
  go_enter Try.func7, Try.ntmps7
  go_wp2_with fail
  refine (calive_any w).mono ?_
  rintro e w1 ⟨rfl, k1⟩
  have K1 := Lib.hid k1
  have z1 := k1.size
  clear k1
  go_wp2_with fail
  refine (cpnew_yes 4 (by omega) w1).mono ?_
  rintro e w2 ⟨rfl, hin2, k2⟩
  have HIN2 := Lib.hid hin2
  have K2 := Lib.hid (K1.out.trans k2)
  have z2 := k2.size
  clear hin2 k2
  go_wp2_with fail
  go_loopw [11] (fun i wr => OthRel 0 w w1.heap.size i wr) (fun i _ => 0 - (intOf i).toNat)
  case atStart => exact ⟨0, _, _, Nat.zero_le _, rfl, ⟨HIN2.out, Cb.fit_new (by omega), by omega, z2⟩, K2.out⟩
  case round =>
    obtain ⟨k, ov, sv, hk, rfl, hok, hK⟩ := hrel
    have HOK := Lib.hid hok
    have HK := Lib.hid hK
    clear hok hK
    obtain rfl : k = 0 := by omega
    go_wp2_with fail
    have hst := cstepped HOK.out (250 : Int) (by omega) (by omega) z1 HK.out (by omega)
    rw [HE.out] at hst
    refine hst.mono ?_
    clear hst
    rintro e w4 ⟨v4, ov4, sv4, rfl, hown4, hok4, k4, z4⟩
    obtain ⟨a4, c4, rfl⟩ := hown4.shape
    have K4 := Lib.hid k4
    clear hown4 hok4 k4
    go_wp2_with fail
    go_ret
    exact ⟨rfl, K4.out⟩

set_option maxHeartbeats 1600000 in
set_option maxRecDepth 100000 in
theorem coth_f_c251 (x : Int) (hx : x = 251) (w : World) :
    Calls Try.prog 7 #[.int .u8 x, .bool false] w fun r w' => r = .returned (.bool true) ∧ Keeps [] w w' := by
  subst hx
  have HE := Lib.hid (show ((othSt 0).step (251 : Int)).2.c.e = 6 from rfl)
  go_enter Try.func7, Try.ntmps7
  go_wp2_with fail
  refine (calive_any w).mono ?_
  rintro e w1 ⟨rfl, k1⟩
  have K1 := Lib.hid k1
  have z1 := k1.size
  clear k1
  go_wp2_with fail
  refine (cpnew_yes 4 (by omega) w1).mono ?_
  rintro e w2 ⟨rfl, hin2, k2⟩
  have HIN2 := Lib.hid hin2
  have K2 := Lib.hid (K1.out.trans k2)
  have z2 := k2.size
  clear hin2 k2
  go_wp2_with fail
  go_loopw [11] (fun i wr => OthRel 0 w w1.heap.size i wr) (fun i _ => 0 - (intOf i).toNat)
  case atStart => exact ⟨0, _, _, Nat.zero_le _, rfl, ⟨HIN2.out, Cb.fit_new (by omega), by omega, z2⟩, K2.out⟩
  case round =>
    obtain ⟨k, ov, sv, hk, rfl, hok, hK⟩ := hrel
    have HOK := Lib.hid hok
    have HK := Lib.hid hK
    clear hok hK
    obtain rfl : k = 0 := by omega
    go_wp2_with fail
    have hst := cstepped HOK.out (251 : Int) (by omega) (by omega) z1 HK.out (by omega)
    rw [HE.out] at hst
    refine hst.mono ?_
    clear hst
    rintro e w4 ⟨v4, ov4, sv4, rfl, hown4, hok4, k4, z4⟩
    obtain ⟨a4, c4, rfl⟩ := hown4.shape
    have K4 := Lib.hid k4
    clear hown4 hok4 k4
    go_wp2_with fail
    go_ret
    exact ⟨rfl, K4.out⟩

set_option maxHeartbeats 1600000 in
set_option maxRecDepth 100000 in
theorem coth_f_c247 (x : Int) (hx : x = 247) (w : World) :
    Calls Try.prog 7 #[.int .u8 x, .bool false] w fun r w' => r = .returned (.bool true) ∧ Keeps [] w w' := by
  subst hx
  have HE := Lib.hid (show ((othSt 0).step (247 : Int)).2.c.e = 8 from rfl)
  go_enter Try.func7, Try.ntmps7
  go_wp2_with fail
  refine (calive_any w).mono ?_
  rintro e w1 ⟨rfl, k1⟩
  have K1 := Lib.hid k1
  have z1 := k1.size
  clear k1
  go_wp2_with fail
  refine (cpnew_yes 4 (by omega) w1).mono ?_
  rintro e w2 ⟨rfl, hin2, k2⟩
  have HIN2 := Lib.hid hin2
  have K2 := Lib.hid (K1.out.trans k2)
  have z2 := k2.size
  clear hin2 k2
  go_wp2_with fail
  go_loopw [11] (fun i wr => OthRel 0 w w1.heap.size i wr) (fun i _ => 0 - (intOf i).toNat)
  case atStart => exact ⟨0, _, _, Nat.zero_le _, rfl, ⟨HIN2.out, Cb.fit_new (by omega), by omega, z2⟩, K2.out⟩
  case round =>
    obtain ⟨k, ov, sv, hk, rfl, hok, hK⟩ := hrel
    have HOK := Lib.hid hok
    have HK := Lib.hid hK
    clear hok hK
    obtain rfl : k = 0 := by omega
    go_wp2_with fail
    have hst := cstepped HOK.out (247 : Int) (by omega) (by omega) z1 HK.out (by omega)
    rw [HE.out] at hst
    refine hst.mono ?_
    clear hst
    rintro e w4 ⟨v4, ov4, sv4, rfl, hown4, hok4, k4, z4⟩
    obtain ⟨a4, c4, rfl⟩ := hown4.shape
    have K4 := Lib.hid k4
    clear hown4 hok4 k4
    go_wp2_with fail
    go_ret
    exact ⟨rfl, K4.out⟩

set_option maxHeartbeats 1600000 in
set_option maxRecDepth 100000 in
theorem coth_f_c248 (x : Int) (hx : x = 248) (w : World) :
    Calls Try.prog 7 #[.int .u8 x, .bool false] w fun r w' => r = .returned (.bool true) ∧ Keeps [] w w' := by
  subst hx
  have HE := Lib.hid (show ((othSt 0).step (248 : Int)).2.c.e = 8 from rfl)
  go_enter Try.func7, Try.ntmps7
  go_wp2_with fail
  refine (calive_any w).mono ?_
  rintro e w1 ⟨rfl, k1⟩
  have K1 := Lib.hid k1
  have z1 := k1.size
  clear k1
  go_wp2_with fail
  refine (cpnew_yes 4 (by omega) w1).mono ?_
  rintro e w2 ⟨rfl, hin2, k2⟩
  have HIN2 := Lib.hid hin2
  have K2 := Lib.hid (K1.out.trans k2)
  have z2 := k2.size
  clear hin2 k2
  go_wp2_with fail
  go_loopw [11] (fun i wr => OthRel 0 w w1.heap.size i wr) (fun i _ => 0 - (intOf i).toNat)
  case atStart => exact ⟨0, _, _, Nat.zero_le _, rfl, ⟨HIN2.out, Cb.fit_new (by omega), by omega, z2⟩, K2.out⟩
  case round =>
    obtain ⟨k, ov, sv, hk, rfl, hok, hK⟩ := hrel
    have HOK := Lib.hid hok
    have HK := Lib.hid hK
    clear hok hK
    obtain rfl : k = 0 := by omega
    go_wp2_with fail
    have hst := cstepped HOK.out (248 : Int) (by omega) (by omega) z1 HK.out (by omega)
    rw [HE.out] at hst
    refine hst.mono ?_
    clear hst
    rintro e w4 ⟨v4, ov4, sv4, rfl, hown4, hok4, k4, z4⟩
    obtain ⟨a4, c4, rfl⟩ := hown4.shape
    have K4 := Lib.hid k4
    clear hown4 hok4 k4
    go_wp2_with fail
    go_ret
    exact ⟨rfl, K4.out⟩

set_option maxHeartbeats 1600000 in
set_option maxRecDepth 100000 in
theorem coth_f_c244 (x : Int) (hx : x = 244) (w : World) :
    Calls Try.prog 7 #[.int .u8 x, .bool false] w fun r w' => r = .returned (.bool true) ∧ Keeps [] w w' := by
  subst hx
  have HE := Lib.hid (show ((othSt 0).step (244 : Int)).2.c.e = 0 from rfl)
  go_enter Try.func7, Try.ntmps7
  go_wp2_with fail
  refine (calive_any w).mono ?_
  rintro e w1 ⟨rfl, k1⟩
  have K1 := Lib.hid k1
  have z1 := k1.size
  clear k1
  go_wp2_with fail
  refine (cpnew_yes 4 (by omega) w1).mono ?_
  rintro e w2 ⟨rfl, hin2, k2⟩
  have HIN2 := Lib.hid hin2
  have K2 := Lib.hid (K1.out.trans k2)
  have z2 := k2.size
  clear hin2 k2
  go_wp2_with fail
  go_loopw [11] (fun i wr => OthRel 0 w w1.heap.size i wr) (fun i _ => 0 - (intOf i).toNat)
  case atStart => exact ⟨0, _, _, Nat.zero_le _, rfl, ⟨HIN2.out, Cb.fit_new (by omega), by omega, z2⟩, K2.out⟩
  case round =>
    obtain ⟨k, ov, sv, hk, rfl, hok, hK⟩ := hrel
    have HOK := Lib.hid hok
    have HK := Lib.hid hK
    clear hok hK
    obtain rfl : k = 0 := by omega
    go_wp2_with fail
    have hst := cstepped HOK.out (244 : Int) (by omega) (by omega) z1 HK.out (by omega)
    rw [HE.out] at hst
    refine hst.mono ?_
    clear hst
    rintro e w4 ⟨v4, ov4, sv4, rfl, hown4, hok4, k4, z4⟩
    obtain ⟨a4, c4, rfl⟩ := hown4.shape
    have K4 := Lib.hid k4
    clear hown4 hok4 k4
    go_wp2_with fail
    go_ret
    exact ⟨rfl, K4.out⟩

set_option maxHeartbeats 1600000 in
set_option maxRecDepth 100000 in
theorem coth_f_c245 (x : Int) (hx : x = 245) (w : World) :
    Calls Try.prog 7 #[.int .u8 x, .bool false] w fun r w' => r = .returned (.bool true) ∧ Keeps [] w w' := by
  subst hx
  have HE := Lib.hid (show ((othSt 0).step (245 : Int)).2.c.e = 0 from rfl)
  go_enter Try.func7, Try.ntmps7
  go_wp2_with fail
  refine (calive_any w).mono ?_
  rintro e w1 ⟨rfl, k1⟩
  have K1 := Lib.hid k1
  have z1 := k1.size
  clear k1
  go_wp2_with fail
  refine (cpnew_yes 4 (by omega) w1).mono ?_
  rintro e w2 ⟨rfl, hin2, k2⟩
  have HIN2 := Lib.hid hin2
  have K2 := Lib.hid (K1.out.trans k2)
  have z2 := k2.size
  clear hin2 k2
  go_wp2_with fail
  go_loopw [11] (fun i wr => OthRel 0 w w1.heap.size i wr) (fun i _ => 0 - (intOf i).toNat)
  case atStart => exact ⟨0, _, _, Nat.zero_le _, rfl, ⟨HIN2.out, Cb.fit_new (by omega), by omega, z2⟩, K2.out⟩
  case round =>
    obtain ⟨k, ov, sv, hk, rfl, hok, hK⟩ := hrel
    have HOK := Lib.hid hok
    have HK := Lib.hid hK
    clear hok hK
    obtain rfl : k = 0 := by omega
    go_wp2_with fail
    have hst := cstepped HOK.out (245 : Int) (by omega) (by omega) z1 HK.out (by omega)
    rw [HE.out] at hst
    refine hst.mono ?_
    clear hst
    rintro e w4 ⟨v4, ov4, sv4, rfl, hown4, hok4, k4, z4⟩
    obtain ⟨a4, c4, rfl⟩ := hown4.shape
    have K4 := Lib.hid k4
    clear hown4 hok4 k4
    go_wp2_with fail
    go_ret
    exact ⟨rfl, K4.out⟩

set_option maxHeartbeats 1600000 in
set_option maxRecDepth 100000 in
theorem coth_f_c246 (x : Int) (hx : x = 246) (w : World) :
    Calls Try.prog 7 #[.int .u8 x, .bool false] w fun r w' => r = .returned (.bool true) ∧ Keeps [] w w' := by
  subst hx
  have HE := Lib.hid (show ((othSt 0).step (246 : Int)).2.c.e = 0 from rfl)
  go_enter Try.func7, Try.ntmps7
  go_wp2_with fail
  refine (calive_any w).mono ?_
  rintro e w1 ⟨rfl, k1⟩
  have K1 := Lib.hid k1
  have z1 := k1.size
  clear k1
  go_wp2_with fail
  refine (cpnew_yes 4 (by omega) w1).mono ?_
  rintro e w2 ⟨rfl, hin2, k2⟩
  have HIN2 := Lib.hid hin2
  have K2 := Lib.hid (K1.out.trans k2)
  have z2 := k2.size
  clear hin2 k2
  go_wp2_with fail
  go_loopw [11] (fun i wr => OthRel 0 w w1.heap.size i wr) (fun i _ => 0 - (intOf i).toNat)
  case atStart => exact ⟨0, _, _, Nat.zero_le _, rfl, ⟨HIN2.out, Cb.fit_new (by omega), by omega, z2⟩, K2.out⟩
  case round =>
    obtain ⟨k, ov, sv, hk, rfl, hok, hK⟩ := hrel
    have HOK := Lib.hid hok
    have HK := Lib.hid hK
    clear hok hK
    obtain rfl : k = 0 := by omega
    go_wp2_with fail
    have hst := cstepped HOK.out (246 : Int) (by omega) (by omega) z1 HK.out (by omega)
    rw [HE.out] at hst
    refine hst.mono ?_
    clear hst
    rintro e w4 ⟨v4, ov4, sv4, rfl, hown4, hok4, k4, z4⟩
    obtain ⟨a4, c4, rfl⟩ := hown4.shape
    have K4 := Lib.hid k4
    clear hown4 hok4 k4
    go_wp2_with fail
    go_ret
    exact ⟨rfl, K4.out⟩

set_option maxHeartbeats 1600000 in
set_option maxRecDepth 100000 in
theorem coth_f_c95 (x : Int) (hx : x = 95) (w : World) :
    Calls Try.prog 7 #[.int .u8 x, .bool false] w fun r w' => r = .returned (.bool true) ∧ Keeps [] w w' := by
  subst hx
  have HE := Lib.hid (show ((othSt 0).step (95 : Int)).2.c.e = 0 from rfl)
  go_enter Try.func7, Try.ntmps7
  go_wp2_with fail
  refine (calive_any w).mono ?_
  rintro e w1 ⟨rfl, k1⟩
  have K1 := Lib.hid k1
  have z1 := k1.size
  clear k1
  go_wp2_with fail
  refine (cpnew_yes 4 (by omega) w1).mono ?_
  rintro e w2 ⟨rfl, hin2, k2⟩
  have HIN2 := Lib.hid hin2
  have K2 := Lib.hid (K1.out.trans k2)
  have z2 := k2.size
  clear hin2 k2
  go_wp2_with fail
  go_loopw [11] (fun i wr => OthRel 0 w w1.heap.size i wr) (fun i _ => 0 - (intOf i).toNat)
  case atStart => exact ⟨0, _, _, Nat.zero_le _, rfl, ⟨HIN2.out, Cb.fit_new (by omega), by omega, z2⟩, K2.out⟩
  case round =>
    obtain ⟨k, ov, sv, hk, rfl, hok, hK⟩ := hrel
    have HOK := Lib.hid hok
    have HK := Lib.hid hK
    clear hok hK
    obtain rfl : k = 0 := by omega
    go_wp2_with fail
    have hst := cstepped HOK.out (95 : Int) (by omega) (by omega) z1 HK.out (by omega)
    rw [HE.out] at hst
    refine hst.mono ?_
    clear hst
    rintro e w4 ⟨v4, ov4, sv4, rfl, hown4, hok4, k4, z4⟩
    obtain ⟨a4, c4, rfl⟩ := hown4.shape
    have K4 := Lib.hid k4
    clear hown4 hok4 k4
    go_wp2_with fail
    go_ret
    exact ⟨rfl, K4.out⟩

set_option maxHeartbeats 1600000 in
set_option maxRecDepth 100000 in
theorem coth_f_c127 (x : Int) (hx : x = 127) (w : World) :
    Calls Try.prog 7 #[.int .u8 x, .bool false] w fun r w' => r = .returned (.bool true) ∧ Keeps [] w w' := by
  subst hx
  have HE := Lib.hid (show ((othSt 0).step (127 : Int)).2.c.e = 0 from rfl)
  go_enter Try.func7, Try.ntmps7
  go_wp2_with fail
  refine (calive_any w).mono ?_
  rintro e w1 ⟨rfl, k1⟩
  have K1 := Lib.hid k1
  have z1 := k1.size
  clear k1
  go_wp2_with fail
  refine (cpnew_yes 4 (by omega) w1).mono ?_
  rintro e w2 ⟨rfl, hin2, k2⟩
  have HIN2 := Lib.hid hin2
  have K2 := Lib.hid (K1.out.trans k2)
  have z2 := k2.size
  clear hin2 k2
  go_wp2_with fail
  go_loopw [11] (fun i wr => OthRel 0 w w1.heap.size i wr) (fun i _ => 0 - (intOf i).toNat)
  case atStart => exact ⟨0, _, _, Nat.zero_le _, rfl, ⟨HIN2.out, Cb.fit_new (by omega), by omega, z2⟩, K2.out⟩
  case round =>
    obtain ⟨k, ov, sv, hk, rfl, hok, hK⟩ := hrel
    have HOK := Lib.hid hok
    have HK := Lib.hid hK
    clear hok hK
    obtain rfl : k = 0 := by omega
    go_wp2_with fail
    have hst := cstepped HOK.out (127 : Int) (by omega) (by omega) z1 HK.out (by omega)
    rw [HE.out] at hst
    refine hst.mono ?_
    clear hst
    rintro e w4 ⟨v4, ov4, sv4, rfl, hown4, hok4, k4, z4⟩
    obtain ⟨a4, c4, rfl⟩ := hown4.shape
    have K4 := Lib.hid k4
    clear hown4 hok4 k4
    go_wp2_with fail
    go_ret
    exact ⟨rfl, K4.out⟩

set_option maxHeartbeats 1600000 in
set_option maxRecDepth 100000 in
theorem coth_f_c159 (x : Int) (hx : x = 159) (w : World) :
    Calls Try.prog 7 #[.int .u8 x, .bool false] w fun r w' => r = .returned (.bool true) ∧ Keeps [] w w' := by
  subst hx
  have HE := Lib.hid (show ((othSt 0).step (159 : Int)).2.c.e = 0 from rfl)
  go_enter Try.func7, Try.ntmps7
  go_wp2_with fail
  refine (calive_any w).mono ?_
  rintro e w1 ⟨rfl, k1⟩
  have K1 := Lib.hid k1
  have z1 := k1.size
  clear k1
  go_wp2_with fail
  refine (cpnew_yes 4 (by omega) w1).mono ?_
  rintro e w2 ⟨rfl, hin2, k2⟩
  have HIN2 := Lib.hid hin2
  have K2 := Lib.hid (K1.out.trans k2)
  have z2 := k2.size
  clear hin2 k2
  go_wp2_with fail
  go_loopw [11] (fun i wr => OthRel 0 w w1.heap.size i wr) (fun i _ => 0 - (intOf i).toNat)
  case atStart => exact ⟨0, _, _, Nat.zero_le _, rfl, ⟨HIN2.out, Cb.fit_new (by omega), by omega, z2⟩, K2.out⟩
  case round =>
    obtain ⟨k, ov, sv, hk, rfl, hok, hK⟩ := hrel
    have HOK := Lib.hid hok
    have HK := Lib.hid hK
    clear hok hK
    obtain rfl : k = 0 := by omega
    go_wp2_with fail
    have hst := cstepped HOK.out (159 : Int) (by omega) (by omega) z1 HK.out (by omega)
    rw [HE.out] at hst
    refine hst.mono ?_
    clear hst
    rintro e w4 ⟨v4, ov4, sv4, rfl, hown4, hok4, k4, z4⟩
    obtain ⟨a4, c4, rfl⟩ := hown4.shape
    have K4 := Lib.hid k4
    clear hown4 hok4 k4
    go_wp2_with fail
    go_ret
    exact ⟨rfl, K4.out⟩

set_option maxHeartbeats 1600000 in
set_option maxRecDepth 100000 in
theorem coth_f_c191 (x : Int) (hx : x = 191) (w : World) :
    Calls Try.prog 7 #[.int .u8 x, .bool false] w fun r w' => r = .returned (.bool true) ∧ Keeps [] w w' := by
  subst hx
  have HE := Lib.hid (show ((othSt 0).step (191 : Int)).2.c.e = 0 from rfl)
  go_enter Try.func7, Try.ntmps7
  go_wp2_with fail
  refine (calive_any w).mono ?_
  rintro e w1 ⟨rfl, k1⟩
  have K1 := Lib.hid k1
  have z1 := k1.size
  clear k1
  go_wp2_with fail
  refine (cpnew_yes 4 (by omega) w1).mono ?_
  rintro e w2 ⟨rfl, hin2, k2⟩
  have HIN2 := Lib.hid hin2
  have K2 := Lib.hid (K1.out.trans k2)
  have z2 := k2.size
  clear hin2 k2
  go_wp2_with fail
  go_loopw [11] (fun i wr => OthRel 0 w w1.heap.size i wr) (fun i _ => 0 - (intOf i).toNat)
  case atStart => exact ⟨0, _, _, Nat.zero_le _, rfl, ⟨HIN2.out, Cb.fit_new (by omega), by omega, z2⟩, K2.out⟩
  case round =>
    obtain ⟨k, ov, sv, hk, rfl, hok, hK⟩ := hrel
    have HOK := Lib.hid hok
    have HK := Lib.hid hK
    clear hok hK
    obtain rfl : k = 0 := by omega
    go_wp2_with fail
    have hst := cstepped HOK.out (191 : Int) (by omega) (by omega) z1 HK.out (by omega)
    rw [HE.out] at hst
    refine hst.mono ?_
    clear hst
    rintro e w4 ⟨v4, ov4, sv4, rfl, hown4, hok4, k4, z4⟩
    obtain ⟨a4, c4, rfl⟩ := hown4.shape
    have K4 := Lib.hid k4
    clear hown4 hok4 k4
    go_wp2_with fail
    go_ret
    exact ⟨rfl, K4.out⟩

set_option maxHeartbeats 1600000 in
set_option maxRecDepth 100000 in
theorem coth_t_low28 (x : Int) (hx0 : 0 ≤ x) (hx1 : x ≤ 255) (hl : x % 32 = 28) (w : World) :
    Calls Try.prog 7 #[.int .u8 x, .bool true] w fun r w' => r = .returned (.bool true) ∧ Keeps [] w w' := by
  have hand := pk_and31 hx0 hx1
  rw [hl] at hand
  have HE := Lib.hid (show ((othSt 2).step x).2.c.e = 2 from plainly_2.low (by omega))
  go_enter Try.func7, Try.ntmps7
  go_wp2_with fail
  refine (calive_any w).mono ?_
  rintro e w1 ⟨rfl, k1⟩
  have K1 := Lib.hid k1
  have z1 := k1.size
  clear k1
  go_wp2_with fail
  refine (cpnew_yes 4 (by omega) w1).mono ?_
  rintro e w2 ⟨rfl, hin2, k2⟩
  have HIN2 := Lib.hid hin2
  have K2 := Lib.hid (K1.out.trans k2)
  have z2 := k2.size
  clear hin2 k2
  go_wp2_with fail
  go_loopw [11] (fun i wr => OthRel 2 w w1.heap.size i wr) (fun i _ => 2 - (intOf i).toNat)
  case atStart => exact ⟨0, _, _, Nat.zero_le _, rfl, ⟨HIN2.out, Cb.fit_new (by omega), by omega, z2⟩, K2.out⟩
  case round =>
    obtain ⟨k, ov, sv, hk, rfl, hok, hK⟩ := hrel
    have HOK := Lib.hid hok
    have HK := Lib.hid hK
    clear hok hK
    rcases (show k = 0 ∨ k = 1 ∨ k = 2 by omega) with rfl | rfl | rfl
    · go_wp2_with fail
      have hst := cstepped HOK.out 159 (by omega) (by omega) z1 HK.out (by omega)
      rw [othSt_0] at hst
      refine hst.mono ?_
      clear hst
      rintro e w3 ⟨v3, ov3, sv3, rfl, hown3, hok3, k3, z3⟩
      obtain ⟨a3, c3, rfl⟩ := hown3.shape
      have HOK3 := Lib.hid (show CbOk _ _ _ _ _ _ (othSt 1) from hok3)
      have K3 := Lib.hid k3
      clear hown3 hok3 k3
      simp only [othSt]
      go_wp2_with fail
      go_roundw
      case rel => exact ⟨1, ov3, sv3, by omega, by go_num, HOK3.out, K3.out⟩
      case measure => simp [intOf]
    · go_wp2_with fail
      have hst := cstepped HOK.out 1 (by omega) (by omega) z1 HK.out (by omega)
      rw [othSt_1] at hst
      refine hst.mono ?_
      clear hst
      rintro e w3 ⟨v3, ov3, sv3, rfl, hown3, hok3, k3, z3⟩
      obtain ⟨a3, c3, rfl⟩ := hown3.shape
      have HOK3 := Lib.hid (show CbOk _ _ _ _ _ _ (othSt 2) from hok3)
      have K3 := Lib.hid k3
      clear hown3 hok3 k3
      simp only [othSt]
      go_wp2_with fail
      go_roundw
      case rel => exact ⟨2, ov3, sv3, by omega, by go_num, HOK3.out, K3.out⟩
      case measure => simp [intOf]
    · go_wp2_with fail
      have hst := cstepped HOK.out x (by omega) (by omega) z1 HK.out (by omega)
      rw [HE.out] at hst
      refine hst.mono ?_
      clear hst
      rintro e w4 ⟨v4, ov4, sv4, rfl, hown4, hok4, k4, z4⟩
      obtain ⟨a4, c4, rfl⟩ := hown4.shape
      have K4 := Lib.hid k4
      clear hown4 hok4 k4
      go_wp2_with fail
      go_ret
      exact ⟨rfl, K4.out⟩

set_option maxHeartbeats 1600000 in
set_option maxRecDepth 100000 in
theorem coth_t_low29 (x : Int) (hx0 : 0 ≤ x) (hx1 : x ≤ 255) (hl : x % 32 = 29) (w : World) :
    Calls Try.prog 7 #[.int .u8 x, .bool true] w fun r w' => r = .returned (.bool true) ∧ Keeps [] w w' := by
  have hand := pk_and31 hx0 hx1
  rw [hl] at hand
  have HE := Lib.hid (show ((othSt 2).step x).2.c.e = 2 from plainly_2.low (by omega))
  go_enter Try.func7, Try.ntmps7
  go_wp2_with fail
  refine (calive_any w).mono ?_
  rintro e w1 ⟨rfl, k1⟩
  have K1 := Lib.hid k1
  have z1 := k1.size
  clear k1
  go_wp2_with fail
  refine (cpnew_yes 4 (by omega) w1).mono ?_
  rintro e w2 ⟨rfl, hin2, k2⟩
  have HIN2 := Lib.hid hin2
  have K2 := Lib.hid (K1.out.trans k2)
  have z2 := k2.size
  clear hin2 k2
  go_wp2_with fail
  go_loopw [11] (fun i wr => OthRel 2 w w1.heap.size i wr) (fun i _ => 2 - (intOf i).toNat)
  case atStart => exact ⟨0, _, _, Nat.zero_le _, rfl, ⟨HIN2.out, Cb.fit_new (by omega), by omega, z2⟩, K2.out⟩
  case round =>
    obtain ⟨k, ov, sv, hk, rfl, hok, hK⟩ := hrel
    have HOK := Lib.hid hok
    have HK := Lib.hid hK
    clear hok hK
    rcases (show k = 0 ∨ k = 1 ∨ k = 2 by omega) with rfl | rfl | rfl
    · go_wp2_with fail
      have hst := cstepped HOK.out 159 (by omega) (by omega) z1 HK.out (by omega)
      rw [othSt_0] at hst
      refine hst.mono ?_
      clear hst
      rintro e w3 ⟨v3, ov3, sv3, rfl, hown3, hok3, k3, z3⟩
      obtain ⟨a3, c3, rfl⟩ := hown3.shape
      have HOK3 := Lib.hid (show CbOk _ _ _ _ _ _ (othSt 1) from hok3)
      have K3 := Lib.hid k3
      clear hown3 hok3 k3
      simp only [othSt]
      go_wp2_with fail
      go_roundw
      case rel => exact ⟨1, ov3, sv3, by omega, by go_num, HOK3.out, K3.out⟩
      case measure => simp [intOf]
    · go_wp2_with fail
      have hst := cstepped HOK.out 1 (by omega) (by omega) z1 HK.out (by omega)
      rw [othSt_1] at hst
      refine hst.mono ?_
      clear hst
      rintro e w3 ⟨v3, ov3, sv3, rfl, hown3, hok3, k3, z3⟩
      obtain ⟨a3, c3, rfl⟩ := hown3.shape
      have HOK3 := Lib.hid (show CbOk _ _ _ _ _ _ (othSt 2) from hok3)
      have K3 := Lib.hid k3
      clear hown3 hok3 k3
      simp only [othSt]
      go_wp2_with fail
      go_roundw
      case rel => exact ⟨2, ov3, sv3, by omega, by go_num, HOK3.out, K3.out⟩
      case measure => simp [intOf]
    · go_wp2_with fail
      have hst := cstepped HOK.out x (by omega) (by omega) z1 HK.out (by omega)
      rw [HE.out] at hst
      refine hst.mono ?_
      clear hst
      rintro e w4 ⟨v4, ov4, sv4, rfl, hown4, hok4, k4, z4⟩
      obtain ⟨a4, c4, rfl⟩ := hown4.shape
      have K4 := Lib.hid k4
      clear hown4 hok4 k4
      go_wp2_with fail
      go_ret
      exact ⟨rfl, K4.out⟩

set_option maxHeartbeats 1600000 in
set_option maxRecDepth 100000 in
theorem coth_t_low30 (x : Int) (hx0 : 0 ≤ x) (hx1 : x ≤ 255) (hl : x % 32 = 30) (w : World) :
    Calls Try.prog 7 #[.int .u8 x, .bool true] w fun r w' => r = .returned (.bool true) ∧ Keeps [] w w' := by
  have hand := pk_and31 hx0 hx1
  rw [hl] at hand
  have HE := Lib.hid (show ((othSt 2).step x).2.c.e = 2 from plainly_2.low (by omega))
  go_enter Try.func7, Try.ntmps7
  go_wp2_with fail
  refine (calive_any w).mono ?_
  rintro e w1 ⟨rfl, k1⟩
  have K1 := Lib.hid k1
  have z1 := k1.size
  clear k1
  go_wp2_with fail
  refine (cpnew_yes 4 (by omega) w1).mono ?_
  rintro e w2 ⟨rfl, hin2, k2⟩
  have HIN2 := Lib.hid hin2
  have K2 := Lib.hid (K1.out.trans k2)
  have z2 := k2.size
  clear hin2 k2
  go_wp2_with fail
  go_loopw [11] (fun i wr => OthRel 2 w w1.heap.size i wr) (fun i _ => 2 - (intOf i).toNat)
  case atStart => exact ⟨0, _, _, Nat.zero_le _, rfl, ⟨HIN2.out, Cb.fit_new (by omega), by omega, z2⟩, K2.out⟩
  case round =>
    obtain ⟨k, ov, sv, hk, rfl, hok, hK⟩ := hrel
    have HOK := Lib.hid hok
    have HK := Lib.hid hK
    clear hok hK
    rcases (show k = 0 ∨ k = 1 ∨ k = 2 by omega) with rfl | rfl | rfl
    · go_wp2_with fail
      have hst := cstepped HOK.out 159 (by omega) (by omega) z1 HK.out (by omega)
      rw [othSt_0] at hst
      refine hst.mono ?_
      clear hst
      rintro e w3 ⟨v3, ov3, sv3, rfl, hown3, hok3, k3, z3⟩
      obtain ⟨a3, c3, rfl⟩ := hown3.shape
      have HOK3 := Lib.hid (show CbOk _ _ _ _ _ _ (othSt 1) from hok3)
      have K3 := Lib.hid k3
      clear hown3 hok3 k3
      simp only [othSt]
      go_wp2_with fail
      go_roundw
      case rel => exact ⟨1, ov3, sv3, by omega, by go_num, HOK3.out, K3.out⟩
      case measure => simp [intOf]
    · go_wp2_with fail
      have hst := cstepped HOK.out 1 (by omega) (by omega) z1 HK.out (by omega)
      rw [othSt_1] at hst
      refine hst.mono ?_
      clear hst
      rintro e w3 ⟨v3, ov3, sv3, rfl, hown3, hok3, k3, z3⟩
      obtain ⟨a3, c3, rfl⟩ := hown3.shape
      have HOK3 := Lib.hid (show CbOk _ _ _ _ _ _ (othSt 2) from hok3)
      have K3 := Lib.hid k3
      clear hown3 hok3 k3
      simp only [othSt]
      go_wp2_with fail
      go_roundw
      case rel => exact ⟨2, ov3, sv3, by omega, by go_num, HOK3.out, K3.out⟩
      case measure => simp [intOf]
    · go_wp2_with fail
      have hst := cstepped HOK.out x (by omega) (by omega) z1 HK.out (by omega)
      rw [HE.out] at hst
      refine hst.mono ?_
      clear hst
      rintro e w4 ⟨v4, ov4, sv4, rfl, hown4, hok4, k4, z4⟩
      obtain ⟨a4, c4, rfl⟩ := hown4.shape
      have K4 := Lib.hid k4
      clear hown4 hok4 k4
      go_wp2_with fail
      go_ret
      exact ⟨rfl, K4.out⟩

set_option maxHeartbeats 1600000 in
set_option maxRecDepth 100000 in
theorem coth_t_tag (x : Int) (hx0 : 0 ≤ x) (hx1 : x ≤ 255) (hm : x / 32 = 6) (hl : x % 32 < 28) (w : World) :
    Calls Try.prog 7 #[.int .u8 x, .bool true] w fun r w' => r = .returned (.bool true) ∧ Keeps [] w w' := by
  have hand := pk_and31 hx0 hx1
  have hl1 : ¬ 28 ≤ x % 32 := by omega
  have hl2 : (x % 32 == 31) = false := by simp; omega
  have hxb : (x == 255) = false := by simp; omega
  have HE := Lib.hid (show ((othSt 2).step x).2.c.e = 8 from plainly_2.tag (by omega) (by omega))
  go_enter Try.func7, Try.ntmps7
  go_wp2_with fail
  refine (calive_any w).mono ?_
  rintro e w1 ⟨rfl, k1⟩
  have K1 := Lib.hid k1
  have z1 := k1.size
  clear k1
  go_wp2_with fail
  refine (cpnew_yes 4 (by omega) w1).mono ?_
  rintro e w2 ⟨rfl, hin2, k2⟩
  have HIN2 := Lib.hid hin2
  have K2 := Lib.hid (K1.out.trans k2)
  have z2 := k2.size
  clear hin2 k2
  go_wp2_with fail
  go_loopw [11] (fun i wr => OthRel 2 w w1.heap.size i wr) (fun i _ => 2 - (intOf i).toNat)
  case atStart => exact ⟨0, _, _, Nat.zero_le _, rfl, ⟨HIN2.out, Cb.fit_new (by omega), by omega, z2⟩, K2.out⟩
  case round =>
    obtain ⟨k, ov, sv, hk, rfl, hok, hK⟩ := hrel
    have HOK := Lib.hid hok
    have HK := Lib.hid hK
    clear hok hK
    rcases (show k = 0 ∨ k = 1 ∨ k = 2 by omega) with rfl | rfl | rfl
    · go_wp2_with fail
      have hst := cstepped HOK.out 159 (by omega) (by omega) z1 HK.out (by omega)
      rw [othSt_0] at hst
      refine hst.mono ?_
      clear hst
      rintro e w3 ⟨v3, ov3, sv3, rfl, hown3, hok3, k3, z3⟩
      obtain ⟨a3, c3, rfl⟩ := hown3.shape
      have HOK3 := Lib.hid (show CbOk _ _ _ _ _ _ (othSt 1) from hok3)
      have K3 := Lib.hid k3
      clear hown3 hok3 k3
      simp only [othSt]
      go_wp2_with fail
      go_roundw
      case rel => exact ⟨1, ov3, sv3, by omega, by go_num, HOK3.out, K3.out⟩
      case measure => simp [intOf]
    · go_wp2_with fail
      have hst := cstepped HOK.out 1 (by omega) (by omega) z1 HK.out (by omega)
      rw [othSt_1] at hst
      refine hst.mono ?_
      clear hst
      rintro e w3 ⟨v3, ov3, sv3, rfl, hown3, hok3, k3, z3⟩
      obtain ⟨a3, c3, rfl⟩ := hown3.shape
      have HOK3 := Lib.hid (show CbOk _ _ _ _ _ _ (othSt 2) from hok3)
      have K3 := Lib.hid k3
      clear hown3 hok3 k3
      simp only [othSt]
      go_wp2_with fail
      go_roundw
      case rel => exact ⟨2, ov3, sv3, by omega, by go_num, HOK3.out, K3.out⟩
      case measure => simp [intOf]
    · go_wp2_with fail
      have hst := cstepped HOK.out x (by omega) (by omega) z1 HK.out (by omega)
      rw [HE.out] at hst
      refine hst.mono ?_
      clear hst
      rintro e w4 ⟨v4, ov4, sv4, rfl, hown4, hok4, k4, z4⟩
      obtain ⟨a4, c4, rfl⟩ := hown4.shape
      have K4 := Lib.hid k4
      clear hown4 hok4 k4
      go_wp2_with fail
      go_ret
      exact ⟨rfl, K4.out⟩

set_option maxHeartbeats 1600000 in
set_option maxRecDepth 100000 in
theorem coth_t_simp (x : Int) (hx0 : 0 ≤ x) (hx1 : x ≤ 255) (hm : x / 32 = 7) (hl : x % 32 < 20) (w : World) :
    Calls Try.prog 7 #[.int .u8 x, .bool true] w fun r w' => r = .returned (.bool true) ∧ Keeps [] w w' := by
  have hand := pk_and31 hx0 hx1
  have hl3 : ¬ 25 ≤ x % 32 := by omega
  have hl1 : ¬ 28 ≤ x % 32 := by omega
  have hl2 : (x % 32 == 31) = false := by simp; omega
  have hxb : (x == 255) = false := by simp; omega
  have HE := Lib.hid (show ((othSt 2).step x).2.c.e = 8 from plainly_2.simp_ (by omega) (by omega))
  go_enter Try.func7, Try.ntmps7
  go_wp2_with fail
  refine (calive_any w).mono ?_
  rintro e w1 ⟨rfl, k1⟩
  have K1 := Lib.hid k1
  have z1 := k1.size
  clear k1
  go_wp2_with fail
  refine (cpnew_yes 4 (by omega) w1).mono ?_
  rintro e w2 ⟨rfl, hin2, k2⟩
  have HIN2 := Lib.hid hin2
  have K2 := Lib.hid (K1.out.trans k2)
  have z2 := k2.size
  clear hin2 k2
  go_wp2_with fail
  go_loopw [11] (fun i wr => OthRel 2 w w1.heap.size i wr) (fun i _ => 2 - (intOf i).toNat)
  case atStart => exact ⟨0, _, _, Nat.zero_le _, rfl, ⟨HIN2.out, Cb.fit_new (by omega), by omega, z2⟩, K2.out⟩
  case round =>
    obtain ⟨k, ov, sv, hk, rfl, hok, hK⟩ := hrel
    have HOK := Lib.hid hok
    have HK := Lib.hid hK
    clear hok hK
    rcases (show k = 0 ∨ k = 1 ∨ k = 2 by omega) with rfl | rfl | rfl
    · go_wp2_with fail
      have hst := cstepped HOK.out 159 (by omega) (by omega) z1 HK.out (by omega)
      rw [othSt_0] at hst
      refine hst.mono ?_
      clear hst
      rintro e w3 ⟨v3, ov3, sv3, rfl, hown3, hok3, k3, z3⟩
      obtain ⟨a3, c3, rfl⟩ := hown3.shape
      have HOK3 := Lib.hid (show CbOk _ _ _ _ _ _ (othSt 1) from hok3)
      have K3 := Lib.hid k3
      clear hown3 hok3 k3
      simp only [othSt]
      go_wp2_with fail
      go_roundw
      case rel => exact ⟨1, ov3, sv3, by omega, by go_num, HOK3.out, K3.out⟩
      case measure => simp [intOf]
    · go_wp2_with fail
      have hst := cstepped HOK.out 1 (by omega) (by omega) z1 HK.out (by omega)
      rw [othSt_1] at hst
      refine hst.mono ?_
      clear hst
      rintro e w3 ⟨v3, ov3, sv3, rfl, hown3, hok3, k3, z3⟩
      obtain ⟨a3, c3, rfl⟩ := hown3.shape
      have HOK3 := Lib.hid (show CbOk _ _ _ _ _ _ (othSt 2) from hok3)
      have K3 := Lib.hid k3
      clear hown3 hok3 k3
      simp only [othSt]
      go_wp2_with fail
      go_roundw
      case rel => exact ⟨2, ov3, sv3, by omega, by go_num, HOK3.out, K3.out⟩
      case measure => simp [intOf]
    · go_wp2_with fail
      have hst := cstepped HOK.out x (by omega) (by omega) z1 HK.out (by omega)
      rw [HE.out] at hst
      refine hst.mono ?_
      clear hst
      rintro e w4 ⟨v4, ov4, sv4, rfl, hown4, hok4, k4, z4⟩
      obtain ⟨a4, c4, rfl⟩ := hown4.shape
      have K4 := Lib.hid k4
      clear hown4 hok4 k4
      go_wp2_with fail
      go_ret
      exact ⟨rfl, K4.out⟩

set_option maxHeartbeats 1600000 in
set_option maxRecDepth 100000 in
theorem coth_t_head (x : Int) (hx0 : 0 ≤ x) (hx1 : x ≤ 255) (hm : x / 32 ≤ 5) (hl : x % 32 < 28) (w : World) :
    Calls Try.prog 7 #[.int .u8 x, .bool true] w fun r w' => r = .returned (.bool true) ∧ Keeps [] w w' := by
  have hand := pk_and31 hx0 hx1
  have hm6 : (x / 32 == 6) = false := by simp; omega
  have hm7 : (x / 32 == 7) = false := by simp; omega
  have hl1 : ¬ 28 ≤ x % 32 := by omega
  have hl2 : (x % 32 == 31) = false := by simp; omega
  have hxb : (x == 255) = false := by simp; omega
  have HE := Lib.hid (show ((othSt 2).step x).2.c.e = 0 from plainly_2.head (by omega) (by omega))
  go_enter Try.func7, Try.ntmps7
  go_wp2_with fail
  refine (calive_any w).mono ?_
  rintro e w1 ⟨rfl, k1⟩
  have K1 := Lib.hid k1
  have z1 := k1.size
  clear k1
  go_wp2_with fail
  refine (cpnew_yes 4 (by omega) w1).mono ?_
  rintro e w2 ⟨rfl, hin2, k2⟩
  have HIN2 := Lib.hid hin2
  have K2 := Lib.hid (K1.out.trans k2)
  have z2 := k2.size
  clear hin2 k2
  go_wp2_with fail
  go_loopw [11] (fun i wr => OthRel 2 w w1.heap.size i wr) (fun i _ => 2 - (intOf i).toNat)
  case atStart => exact ⟨0, _, _, Nat.zero_le _, rfl, ⟨HIN2.out, Cb.fit_new (by omega), by omega, z2⟩, K2.out⟩
  case round =>
    obtain ⟨k, ov, sv, hk, rfl, hok, hK⟩ := hrel
    have HOK := Lib.hid hok
    have HK := Lib.hid hK
    clear hok hK
    rcases (show k = 0 ∨ k = 1 ∨ k = 2 by omega) with rfl | rfl | rfl
    · go_wp2_with fail
      have hst := cstepped HOK.out 159 (by omega) (by omega) z1 HK.out (by omega)
      rw [othSt_0] at hst
      refine hst.mono ?_
      clear hst
      rintro e w3 ⟨v3, ov3, sv3, rfl, hown3, hok3, k3, z3⟩
      obtain ⟨a3, c3, rfl⟩ := hown3.shape
      have HOK3 := Lib.hid (show CbOk _ _ _ _ _ _ (othSt 1) from hok3)
      have K3 := Lib.hid k3
      clear hown3 hok3 k3
      simp only [othSt]
      go_wp2_with fail
      go_roundw
      case rel => exact ⟨1, ov3, sv3, by omega, by go_num, HOK3.out, K3.out⟩
      case measure => simp [intOf]
    · go_wp2_with fail
      have hst := cstepped HOK.out 1 (by omega) (by omega) z1 HK.out (by omega)
      rw [othSt_1] at hst
      refine hst.mono ?_
      clear hst
      rintro e w3 ⟨v3, ov3, sv3, rfl, hown3, hok3, k3, z3⟩
      obtain ⟨a3, c3, rfl⟩ := hown3.shape
      have HOK3 := Lib.hid (show CbOk _ _ _ _ _ _ (othSt 2) from hok3)
      have K3 := Lib.hid k3
      clear hown3 hok3 k3
      simp only [othSt]
      go_wp2_with fail
      go_roundw
      case rel => exact ⟨2, ov3, sv3, by omega, by go_num, HOK3.out, K3.out⟩
      case measure => simp [intOf]
    · go_wp2_with fail
      have hst := cstepped HOK.out x (by omega) (by omega) z1 HK.out (by omega)
      rw [HE.out] at hst
      refine hst.mono ?_
      clear hst
      rintro e w4 ⟨v4, ov4, sv4, rfl, hown4, hok4, k4, z4⟩
      obtain ⟨a4, c4, rfl⟩ := hown4.shape
      have K4 := Lib.hid k4
      clear hown4 hok4 k4
      go_wp2_with fail
      go_ret
      exact ⟨rfl, K4.out⟩

set_option maxHeartbeats 1600000 in
set_option maxRecDepth 100000 in
theorem coth_t_c31 (x : Int) (hx : x = 31) (w : World) :
    Calls Try.prog 7 #[.int .u8 x, .bool true] w fun r w' => r = .returned (.bool true) ∧ Keeps [] w w' := by
  subst hx
  have HE := Lib.hid (show ((othSt 2).step (31 : Int)).2.c.e = 2 from rfl)
  go_enter Try.func7, Try.ntmps7
  go_wp2_with fail
  refine (calive_any w).mono ?_
  rintro e w1 ⟨rfl, k1⟩
  have K1 := Lib.hid k1
  have z1 := k1.size
  clear k1
  go_wp2_with fail
  refine (cpnew_yes 4 (by omega) w1).mono ?_
  rintro e w2 ⟨rfl, hin2, k2⟩
  have HIN2 := Lib.hid hin2
  have K2 := Lib.hid (K1.out.trans k2)
  have z2 := k2.size
  clear hin2 k2
  go_wp2_with fail
  go_loopw [11] (fun i wr => OthRel 2 w w1.heap.size i wr) (fun i _ => 2 - (intOf i).toNat)
  case atStart => exact ⟨0, _, _, Nat.zero_le _, rfl, ⟨HIN2.out, Cb.fit_new (by omega), by omega, z2⟩, K2.out⟩
  case round =>
    obtain ⟨k, ov, sv, hk, rfl, hok, hK⟩ := hrel
    have HOK := Lib.hid hok
    have HK := Lib.hid hK
    clear hok hK
    rcases (show k = 0 ∨ k = 1 ∨ k = 2 by omega) with rfl | rfl | rfl
    · go_wp2_with fail
      have hst := cstepped HOK.out 159 (by omega) (by omega) z1 HK.out (by omega)
      rw [othSt_0] at hst
      refine hst.mono ?_
      clear hst
      rintro e w3 ⟨v3, ov3, sv3, rfl, hown3, hok3, k3, z3⟩
      obtain ⟨a3, c3, rfl⟩ := hown3.shape
      have HOK3 := Lib.hid (show CbOk _ _ _ _ _ _ (othSt 1) from hok3)
      have K3 := Lib.hid k3
      clear hown3 hok3 k3
      simp only [othSt]
      go_wp2_with fail
      go_roundw
      case rel => exact ⟨1, ov3, sv3, by omega, by go_num, HOK3.out, K3.out⟩
      case measure => simp [intOf]
    · go_wp2_with fail
      have hst := cstepped HOK.out 1 (by omega) (by omega) z1 HK.out (by omega)
      rw [othSt_1] at hst
      refine hst.mono ?_
      clear hst
      rintro e w3 ⟨v3, ov3, sv3, rfl, hown3, hok3, k3, z3⟩
      obtain ⟨a3, c3, rfl⟩ := hown3.shape
      have HOK3 := Lib.hid (show CbOk _ _ _ _ _ _ (othSt 2) from hok3)
      have K3 := Lib.hid k3
      clear hown3 hok3 k3
      simp only [othSt]
      go_wp2_with fail
      go_roundw
      case rel => exact ⟨2, ov3, sv3, by omega, by go_num, HOK3.out, K3.out⟩
      case measure => simp [intOf]
    · go_wp2_with fail
      have hst := cstepped HOK.out (31 : Int) (by omega) (by omega) z1 HK.out (by omega)
      rw [HE.out] at hst
      refine hst.mono ?_
      clear hst
      rintro e w4 ⟨v4, ov4, sv4, rfl, hown4, hok4, k4, z4⟩
      obtain ⟨a4, c4, rfl⟩ := hown4.shape
      have K4 := Lib.hid k4
      clear hown4 hok4 k4
      go_wp2_with fail
      go_ret
      exact ⟨rfl, K4.out⟩

set_option maxHeartbeats 1600000 in
set_option maxRecDepth 100000 in
theorem coth_t_c63 (x : Int) (hx : x = 63) (w : World) :
    Calls Try.prog 7 #[.int .u8 x, .bool true] w fun r w' => r = .returned (.bool true) ∧ Keeps [] w w' := by
  subst hx
  have HE := Lib.hid (show ((othSt 2).step (63 : Int)).2.c.e = 2 from rfl)
  go_enter Try.func7, Try.ntmps7
  go_wp2_with fail
  refine (calive_any w).mono ?_
  rintro e w1 ⟨rfl, k1⟩
  have K1 := Lib.hid k1
  have z1 := k1.size
  clear k1
  go_wp2_with fail
  refine (cpnew_yes 4 (by omega) w1).mono ?_
  rintro e w2 ⟨rfl, hin2, k2⟩
  have HIN2 := Lib.hid hin2
  have K2 := Lib.hid (K1.out.trans k2)
  have z2 := k2.size
  clear hin2 k2
  go_wp2_with fail
  go_loopw [11] (fun i wr => OthRel 2 w w1.heap.size i wr) (fun i _ => 2 - (intOf i).toNat)
  case atStart => exact ⟨0, _, _, Nat.zero_le _, rfl, ⟨HIN2.out, Cb.fit_new (by omega), by omega, z2⟩, K2.out⟩
  case round =>
    obtain ⟨k, ov, sv, hk, rfl, hok, hK⟩ := hrel
    have HOK := Lib.hid hok
    have HK := Lib.hid hK
    clear hok hK
    rcases (show k = 0 ∨ k = 1 ∨ k = 2 by omega) with rfl | rfl | rfl
    · go_wp2_with fail
      have hst := cstepped HOK.out 159 (by omega) (by omega) z1 HK.out (by omega)
      rw [othSt_0] at hst
      refine hst.mono ?_
      clear hst
      rintro e w3 ⟨v3, ov3, sv3, rfl, hown3, hok3, k3, z3⟩
      obtain ⟨a3, c3, rfl⟩ := hown3.shape
      have HOK3 := Lib.hid (show CbOk _ _ _ _ _ _ (othSt 1) from hok3)
      have K3 := Lib.hid k3
      clear hown3 hok3 k3
      simp only [othSt]
      go_wp2_with fail
      go_roundw
      case rel => exact ⟨1, ov3, sv3, by omega, by go_num, HOK3.out, K3.out⟩
      case measure => simp [intOf]
    · go_wp2_with fail
      have hst := cstepped HOK.out 1 (by omega) (by omega) z1 HK.out (by omega)
      rw [othSt_1] at hst
      refine hst.mono ?_
      clear hst
      rintro e w3 ⟨v3, ov3, sv3, rfl, hown3, hok3, k3, z3⟩
      obtain ⟨a3, c3, rfl⟩ := hown3.shape
      have HOK3 := Lib.hid (show CbOk _ _ _ _ _ _ (othSt 2) from hok3)
      have K3 := Lib.hid k3
      clear hown3 hok3 k3
      simp only [othSt]
      go_wp2_with fail
      go_roundw
      case rel => exact ⟨2, ov3, sv3, by omega, by go_num, HOK3.out, K3.out⟩
      case measure => simp [intOf]
    · go_wp2_with fail
      have hst := cstepped HOK.out (63 : Int) (by omega) (by omega) z1 HK.out (by omega)
      rw [HE.out] at hst
      refine hst.mono ?_
      clear hst
      rintro e w4 ⟨v4, ov4, sv4, rfl, hown4, hok4, k4, z4⟩
      obtain ⟨a4, c4, rfl⟩ := hown4.shape
      have K4 := Lib.hid k4
      clear hown4 hok4 k4
      go_wp2_with fail
      go_ret
      exact ⟨rfl, K4.out⟩

set_option maxHeartbeats 1600000 in
set_option maxRecDepth 100000 in
theorem coth_t_c223 (x : Int) (hx : x = 223) (w : World) :
    Calls Try.prog 7 #[.int .u8 x, .bool true] w fun r w' => r = .returned (.bool true) ∧ Keeps [] w w' := by
  subst hx
  have HE := Lib.hid (show ((othSt 2).step (223 : Int)).2.c.e = 2 from rfl)
  go_enter Try.func7, Try.ntmps7
  go_wp2_with fail
  refine (calive_any w).mono ?_
  rintro e w1 ⟨rfl, k1⟩
  have K1 := Lib.hid k1
  have z1 := k1.size
  clear k1
  go_wp2_with fail
  refine (cpnew_yes 4 (by omega) w1).mono ?_
  rintro e w2 ⟨rfl, hin2, k2⟩
  have HIN2 := Lib.hid hin2
  have K2 := Lib.hid (K1.out.trans k2)
  have z2 := k2.size
  clear hin2 k2
  go_wp2_with fail
  go_loopw [11] (fun i wr => OthRel 2 w w1.heap.size i wr) (fun i _ => 2 - (intOf i).toNat)
  case atStart => exact ⟨0, _, _, Nat.zero_le _, rfl, ⟨HIN2.out, Cb.fit_new (by omega), by omega, z2⟩, K2.out⟩
  case round =>
    obtain ⟨k, ov, sv, hk, rfl, hok, hK⟩ := hrel
    have HOK := Lib.hid hok
    have HK := Lib.hid hK
    clear hok hK
    rcases (show k = 0 ∨ k = 1 ∨ k = 2 by omega) with rfl | rfl | rfl
    · go_wp2_with fail
      have hst := cstepped HOK.out 159 (by omega) (by omega) z1 HK.out (by omega)
      rw [othSt_0] at hst
      refine hst.mono ?_
      clear hst
      rintro e w3 ⟨v3, ov3, sv3, rfl, hown3, hok3, k3, z3⟩
      obtain ⟨a3, c3, rfl⟩ := hown3.shape
      have HOK3 := Lib.hid (show CbOk _ _ _ _ _ _ (othSt 1) from hok3)
      have K3 := Lib.hid k3
      clear hown3 hok3 k3
      simp only [othSt]
      go_wp2_with fail
      go_roundw
      case rel => exact ⟨1, ov3, sv3, by omega, by go_num, HOK3.out, K3.out⟩
      case measure => simp [intOf]
    · go_wp2_with fail
      have hst := cstepped HOK.out 1 (by omega) (by omega) z1 HK.out (by omega)
      rw [othSt_1] at hst
      refine hst.mono ?_
      clear hst
      rintro e w3 ⟨v3, ov3, sv3, rfl, hown3, hok3, k3, z3⟩
      obtain ⟨a3, c3, rfl⟩ := hown3.shape
      have HOK3 := Lib.hid (show CbOk _ _ _ _ _ _ (othSt 2) from hok3)
      have K3 := Lib.hid k3
      clear hown3 hok3 k3
      simp only [othSt]
      go_wp2_with fail
      go_roundw
      case rel => exact ⟨2, ov3, sv3, by omega, by go_num, HOK3.out, K3.out⟩
      case measure => simp [intOf]
    · go_wp2_with fail
      have hst := cstepped HOK.out (223 : Int) (by omega) (by omega) z1 HK.out (by omega)
      rw [HE.out] at hst
      refine hst.mono ?_
      clear hst
      rintro e w4 ⟨v4, ov4, sv4, rfl, hown4, hok4, k4, z4⟩
      obtain ⟨a4, c4, rfl⟩ := hown4.shape
      have K4 := Lib.hid k4
      clear hown4 hok4 k4
      go_wp2_with fail
      go_ret
      exact ⟨rfl, K4.out⟩

set_option maxHeartbeats 1600000 in
set_option maxRecDepth 100000 in
theorem coth_t_c255 (x : Int) (hx : x = 255) (w : World) :
    Calls Try.prog 7 #[.int .u8 x, .bool true] w fun r w' => r = .returned (.bool true) ∧ Keeps [] w w' := by
  subst hx
  have HE := Lib.hid (show ((othSt 2).step (255 : Int)).2.c.e = 0 from rfl)
  go_enter Try.func7, Try.ntmps7
  go_wp2_with fail
  refine (calive_any w).mono ?_
  rintro e w1 ⟨rfl, k1⟩
  have K1 := Lib.hid k1
  have z1 := k1.size
  clear k1
  go_wp2_with fail
  refine (cpnew_yes 4 (by omega) w1).mono ?_
  rintro e w2 ⟨rfl, hin2, k2⟩
  have HIN2 := Lib.hid hin2
  have K2 := Lib.hid (K1.out.trans k2)
  have z2 := k2.size
  clear hin2 k2
  go_wp2_with fail
  go_loopw [11] (fun i wr => OthRel 2 w w1.heap.size i wr) (fun i _ => 2 - (intOf i).toNat)
  case atStart => exact ⟨0, _, _, Nat.zero_le _, rfl, ⟨HIN2.out, Cb.fit_new (by omega), by omega, z2⟩, K2.out⟩
  case round =>
    obtain ⟨k, ov, sv, hk, rfl, hok, hK⟩ := hrel
    have HOK := Lib.hid hok
    have HK := Lib.hid hK
    clear hok hK
    rcases (show k = 0 ∨ k = 1 ∨ k = 2 by omega) with rfl | rfl | rfl
    · go_wp2_with fail
      have hst := cstepped HOK.out 159 (by omega) (by omega) z1 HK.out (by omega)
      rw [othSt_0] at hst
      refine hst.mono ?_
      clear hst
      rintro e w3 ⟨v3, ov3, sv3, rfl, hown3, hok3, k3, z3⟩
      obtain ⟨a3, c3, rfl⟩ := hown3.shape
      have HOK3 := Lib.hid (show CbOk _ _ _ _ _ _ (othSt 1) from hok3)
      have K3 := Lib.hid k3
      clear hown3 hok3 k3
      simp only [othSt]
      go_wp2_with fail
      go_roundw
      case rel => exact ⟨1, ov3, sv3, by omega, by go_num, HOK3.out, K3.out⟩
      case measure => simp [intOf]
    · go_wp2_with fail
      have hst := cstepped HOK.out 1 (by omega) (by omega) z1 HK.out (by omega)
      rw [othSt_1] at hst
      refine hst.mono ?_
      clear hst
      rintro e w3 ⟨v3, ov3, sv3, rfl, hown3, hok3, k3, z3⟩
      obtain ⟨a3, c3, rfl⟩ := hown3.shape
      have HOK3 := Lib.hid (show CbOk _ _ _ _ _ _ (othSt 2) from hok3)
      have K3 := Lib.hid k3
      clear hown3 hok3 k3
      simp only [othSt]
      go_wp2_with fail
      go_roundw
      case rel => exact ⟨2, ov3, sv3, by omega, by go_num, HOK3.out, K3.out⟩
      case measure => simp [intOf]
    · go_wp2_with fail
      have hst := cstepped HOK.out (255 : Int) (by omega) (by omega) z1 HK.out (by omega)
      rw [HE.out] at hst
      refine hst.mono ?_
      clear hst
      rintro e w4 ⟨v4, ov4, sv4, rfl, hown4, hok4, k4, z4⟩
      obtain ⟨a4, c4, rfl⟩ := hown4.shape
      have K4 := Lib.hid k4
      clear hown4 hok4 k4
      go_wp2_with fail
      go_ret
      exact ⟨rfl, K4.out⟩

set_option maxHeartbeats 1600000 in
set_option maxRecDepth 100000 in
theorem coth_t_c249 (x : Int) (hx : x = 249) (w : World) :
    Calls Try.prog 7 #[.int .u8 x, .bool true] w fun r w' => r = .returned (.bool true) ∧ Keeps [] w w' := by
  subst hx
  have HE := Lib.hid (show ((othSt 2).step (249 : Int)).2.c.e = 6 from rfl)
  go_enter Try.func7, Try.ntmps7
  go_wp2_with fail
  refine (calive_any w).mono ?_
  rintro e w1 ⟨rfl, k1⟩
  have K1 := Lib.hid k1
  have z1 := k1.size
  clear k1
  go_wp2_with fail
  refine (cpnew_yes 4 (by omega) w1).mono ?_
  rintro e w2 ⟨rfl, hin2, k2⟩
  have HIN2 := Lib.hid hin2
  have K2 := Lib.hid (K1.out.trans k2)
  have z2 := k2.size
  clear hin2 k2
  go_wp2_with fail
  go_loopw [11] (fun i wr => OthRel 2 w w1.heap.size i wr) (fun i _ => 2 - (intOf i).toNat)
  case atStart => exact ⟨0, _, _, Nat.zero_le _, rfl, ⟨HIN2.out, Cb.fit_new (by omega), by omega, z2⟩, K2.out⟩
  case round =>
    obtain ⟨k, ov, sv, hk, rfl, hok, hK⟩ := hrel
    have HOK := Lib.hid hok
    have HK := Lib.hid hK
    clear hok hK
    rcases (show k = 0 ∨ k = 1 ∨ k = 2 by omega) with rfl | rfl | rfl
    · go_wp2_with fail
      have hst := cstepped HOK.out 159 (by omega) (by omega) z1 HK.out (by omega)
      rw [othSt_0] at hst
      refine hst.mono ?_
      clear hst
      rintro e w3 ⟨v3, ov3, sv3, rfl, hown3, hok3, k3, z3⟩
      obtain ⟨a3, c3, rfl⟩ := hown3.shape
      have HOK3 := Lib.hid (show CbOk _ _ _ _ _ _ (othSt 1) from hok3)
      have K3 := Lib.hid k3
      clear hown3 hok3 k3
      simp only [othSt]
      go_wp2_with fail
      go_roundw
      case rel => exact ⟨1, ov3, sv3, by omega, by go_num, HOK3.out, K3.out⟩
      case measure => simp [intOf]
    · go_wp2_with fail
      have hst := cstepped HOK.out 1 (by omega) (by omega) z1 HK.out (by omega)
      rw [othSt_1] at hst
      refine hst.mono ?_
      clear hst
      rintro e w3 ⟨v3, ov3, sv3, rfl, hown3, hok3, k3, z3⟩
      obtain ⟨a3, c3, rfl⟩ := hown3.shape
      have HOK3 := Lib.hid (show CbOk _ _ _ _ _ _ (othSt 2) from hok3)
      have K3 := Lib.hid k3
      clear hown3 hok3 k3
      simp only [othSt]
      go_wp2_with fail
      go_roundw
      case rel => exact ⟨2, ov3, sv3, by omega, by go_num, HOK3.out, K3.out⟩
      case measure => simp [intOf]
    · go_wp2_with fail
      have hst := cstepped HOK.out (249 : Int) (by omega) (by omega) z1 HK.out (by omega)
      rw [HE.out] at hst
      refine hst.mono ?_
      clear hst
      rintro e w4 ⟨v4, ov4, sv4, rfl, hown4, hok4, k4, z4⟩
      obtain ⟨a4, c4, rfl⟩ := hown4.shape
      have K4 := Lib.hid k4
      clear hown4 hok4 k4
      go_wp2_with fail
      go_ret
      exact ⟨rfl, K4.out⟩

set_option maxHeartbeats 1600000 in
set_option maxRecDepth 100000 in
theorem coth_t_c250 (x : Int) (hx : x = 250) (w : World) :
    Calls Try.prog 7 #[.int .u8 x, .bool true] w fun r w' => r = .returned (.bool true) ∧ Keeps [] w w' := by
  subst hx
  have HE := Lib.hid (show ((othSt 2).step (250 : Int)).2.c.e = 6 from rfl)
  go_enter Try.func7, Try.ntmps7
  go_wp2_with fail
  refine (calive_any w).mono ?_
  rintro e w1 ⟨rfl, k1⟩
  have K1 := Lib.hid k1
  have z1 := k1.size
  clear k1
  go_wp2_with fail
  refine (cpnew_yes 4 (by omega) w1).mono ?_
  rintro e w2 ⟨rfl, hin2, k2⟩
  have HIN2 := Lib.hid hin2
  have K2 := Lib.hid (K1.out.trans k2)
  have z2 := k2.size
  clear hin2 k2
  go_wp2_with fail
  go_loopw [11] (fun i wr => OthRel 2 w w1.heap.size i wr) (fun i _ => 2 - (intOf i).toNat)
  case atStart => exact ⟨0, _, _, Nat.zero_le _, rfl, ⟨HIN2.out, Cb.fit_new (by omega), by omega, z2⟩, K2.out⟩
  case round =>
    obtain ⟨k, ov, sv, hk, rfl, hok, hK⟩ := hrel
    have HOK := Lib.hid hok
    have HK := Lib.hid hK
    clear hok hK
    rcases (show k = 0 ∨ k = 1 ∨ k = 2 by omega) with rfl | rfl | rfl
    · go_wp2_with fail
      have hst := cstepped HOK.out 159 (by omega) (by omega) z1 HK.out (by omega)
      rw [othSt_0] at hst
      refine hst.mono ?_
      clear hst
      rintro e w3 ⟨v3, ov3, sv3, rfl, hown3, hok3, k3, z3⟩
      obtain ⟨a3, c3, rfl⟩ := hown3.shape
      have HOK3 := Lib.hid (show CbOk _ _ _ _ _ _ (othSt 1) from hok3)
      have K3 := Lib.hid k3
      clear hown3 hok3 k3
      simp only [othSt]
      go_wp2_with fail
      go_roundw
      case rel => exact ⟨1, ov3, sv3, by omega, by go_num, HOK3.out, K3.out⟩
      case measure => simp [intOf]
    · go_wp2_with fail
      have hst := cstepped HOK.out 1 (by omega) (by omega) z1 HK.out (by omega)
      rw [othSt_1] at hst
      refine hst.mono ?_
      clear hst
      rintro e w3 ⟨v3, ov3, sv3, rfl, hown3, hok3, k3, z3⟩
      obtain ⟨a3, c3, rfl⟩ := hown3.shape
      have HOK3 := Lib.hid (show CbOk _ _ _ _ _ _ (othSt 2) from hok3)
      have K3 := Lib.hid k3
      clear hown3 hok3 k3
      simp only [othSt]
      go_wp2_with fail
      go_roundw
      case rel => exact ⟨2, ov3, sv3, by omega, by go_num, HOK3.out, K3.out⟩
      case measure => simp [intOf]
    · go_wp2_with fail
      have hst := cstepped HOK.out (250 : Int) (by omega) (by omega) z1 HK.out (by omega)
      rw [HE.out] at hst
      refine hst.mono ?_
      clear hst
      rintro e w4 ⟨v4, ov4, sv4, rfl, hown4, hok4, k4, z4⟩
      obtain ⟨a4, c4, rfl⟩ := hown4.shape
      have K4 := Lib.hid k4
      clear hown4 hok4 k4
      go_wp2_with fail
      go_ret
      exact ⟨rfl, K4.out⟩

set_option maxHeartbeats 1600000 in
set_option maxRecDepth 100000 in
theorem coth_t_c251 (x : Int) (hx : x = 251) (w : World) :
    Calls Try.prog 7 #[.int .u8 x, .bool true] w fun r w' => r = .returned (.bool true) ∧ Keeps [] w w' := by
  subst hx
  have HE := Lib.hid (show ((othSt 2).step (251 : Int)).2.c.e = 6 from rfl)
  go_enter Try.func7, Try.ntmps7
  go_wp2_with fail
  refine (calive_any w).mono ?_
  rintro e w1 ⟨rfl, k1⟩
  have K1 := Lib.hid k1
  have z1 := k1.size
  clear k1
  go_wp2_with fail
  refine (cpnew_yes 4 (by omega) w1).mono ?_
  rintro e w2 ⟨rfl, hin2, k2⟩
  have HIN2 := Lib.hid hin2
  have K2 := Lib.hid (K1.out.trans k2)
  have z2 := k2.size
  clear hin2 k2
  go_wp2_with fail
  go_loopw [11] (fun i wr => OthRel 2 w w1.heap.size i wr) (fun i _ => 2 - (intOf i).toNat)
  case atStart => exact ⟨0, _, _, Nat.zero_le _, rfl, ⟨HIN2.out, Cb.fit_new (by omega), by omega, z2⟩, K2.out⟩
  case round =>
    obtain ⟨k, ov, sv, hk, rfl, hok, hK⟩ := hrel
    have HOK := Lib.hid hok
    have HK := Lib.hid hK
    clear hok hK
    rcases (show k = 0 ∨ k = 1 ∨ k = 2 by omega) with rfl | rfl | rfl
    · go_wp2_with fail
      have hst := cstepped HOK.out 159 (by omega) (by omega) z1 HK.out (by omega)
      rw [othSt_0] at hst
      refine hst.mono ?_
      clear hst
      rintro e w3 ⟨v3, ov3, sv3, rfl, hown3, hok3, k3, z3⟩
      obtain ⟨a3, c3, rfl⟩ := hown3.shape
      have HOK3 := Lib.hid (show CbOk _ _ _ _ _ _ (othSt 1) from hok3)
      have K3 := Lib.hid k3
      clear hown3 hok3 k3
      simp only [othSt]
      go_wp2_with fail
      go_roundw
      case rel => exact ⟨1, ov3, sv3, by omega, by go_num, HOK3.out, K3.out⟩
      case measure => simp [intOf]
    · go_wp2_with fail
      have hst := cstepped HOK.out 1 (by omega) (by omega) z1 HK.out (by omega)
      rw [othSt_1] at hst
      refine hst.mono ?_
      clear hst
      rintro e w3 ⟨v3, ov3, sv3, rfl, hown3, hok3, k3, z3⟩
      obtain ⟨a3, c3, rfl⟩ := hown3.shape
      have HOK3 := Lib.hid (show CbOk _ _ _ _ _ _ (othSt 2) from hok3)
      have K3 := Lib.hid k3
      clear hown3 hok3 k3
      simp only [othSt]
      go_wp2_with fail
      go_roundw
      case rel => exact ⟨2, ov3, sv3, by omega, by go_num, HOK3.out, K3.out⟩
      case measure => simp [intOf]
    · go_wp2_with fail
      have hst := cstepped HOK.out (251 : Int) (by omega) (by omega) z1 HK.out (by omega)
      rw [HE.out] at hst
      refine hst.mono ?_
      clear hst
      rintro e w4 ⟨v4, ov4, sv4, rfl, hown4, hok4, k4, z4⟩
      obtain ⟨a4, c4, rfl⟩ := hown4.shape
      have K4 := Lib.hid k4
      clear hown4 hok4 k4
      go_wp2_with fail
      go_ret
      exact ⟨rfl, K4.out⟩

set_option maxHeartbeats 1600000 in
set_option maxRecDepth 100000 in
theorem coth_t_c247 (x : Int) (hx : x = 247) (w : World) :
    Calls Try.prog 7 #[.int .u8 x, .bool true] w fun r w' => r = .returned (.bool true) ∧ Keeps [] w w' := by
  subst hx
  have HE := Lib.hid (show ((othSt 2).step (247 : Int)).2.c.e = 8 from rfl)
  go_enter Try.func7, Try.ntmps7
  go_wp2_with fail
  refine (calive_any w).mono ?_
  rintro e w1 ⟨rfl, k1⟩
  have K1 := Lib.hid k1
  have z1 := k1.size
  clear k1
  go_wp2_with fail
  refine (cpnew_yes 4 (by omega) w1).mono ?_
  rintro e w2 ⟨rfl, hin2, k2⟩
  have HIN2 := Lib.hid hin2
  have K2 := Lib.hid (K1.out.trans k2)
  have z2 := k2.size
  clear hin2 k2
  go_wp2_with fail
  go_loopw [11] (fun i wr => OthRel 2 w w1.heap.size i wr) (fun i _ => 2 - (intOf i).toNat)
  case atStart => exact ⟨0, _, _, Nat.zero_le _, rfl, ⟨HIN2.out, Cb.fit_new (by omega), by omega, z2⟩, K2.out⟩
  case round =>
    obtain ⟨k, ov, sv, hk, rfl, hok, hK⟩ := hrel
    have HOK := Lib.hid hok
    have HK := Lib.hid hK
    clear hok hK
    rcases (show k = 0 ∨ k = 1 ∨ k = 2 by omega) with rfl | rfl | rfl
    · go_wp2_with fail
      have hst := cstepped HOK.out 159 (by omega) (by omega) z1 HK.out (by omega)
      rw [othSt_0] at hst
      refine hst.mono ?_
      clear hst
      rintro e w3 ⟨v3, ov3, sv3, rfl, hown3, hok3, k3, z3⟩
      obtain ⟨a3, c3, rfl⟩ := hown3.shape
      have HOK3 := Lib.hid (show CbOk _ _ _ _ _ _ (othSt 1) from hok3)
      have K3 := Lib.hid k3
      clear hown3 hok3 k3
      simp only [othSt]
      go_wp2_with fail
      go_roundw
      case rel => exact ⟨1, ov3, sv3, by omega, by go_num, HOK3.out, K3.out⟩
      case measure => simp [intOf]
    · go_wp2_with fail
      have hst := cstepped HOK.out 1 (by omega) (by omega) z1 HK.out (by omega)
      rw [othSt_1] at hst
      refine hst.mono ?_
      clear hst
      rintro e w3 ⟨v3, ov3, sv3, rfl, hown3, hok3, k3, z3⟩
      obtain ⟨a3, c3, rfl⟩ := hown3.shape
      have HOK3 := Lib.hid (show CbOk _ _ _ _ _ _ (othSt 2) from hok3)
      have K3 := Lib.hid k3
      clear hown3 hok3 k3
      simp only [othSt]
      go_wp2_with fail
      go_roundw
      case rel => exact ⟨2, ov3, sv3, by omega, by go_num, HOK3.out, K3.out⟩
      case measure => simp [intOf]
    · go_wp2_with fail
      have hst := cstepped HOK.out (247 : Int) (by omega) (by omega) z1 HK.out (by omega)
      rw [HE.out] at hst
      refine hst.mono ?_
      clear hst
      rintro e w4 ⟨v4, ov4, sv4, rfl, hown4, hok4, k4, z4⟩
      obtain ⟨a4, c4, rfl⟩ := hown4.shape
      have K4 := Lib.hid k4
      clear hown4 hok4 k4
      go_wp2_with fail
      go_ret
      exact ⟨rfl, K4.out⟩

set_option maxHeartbeats 1600000 in
set_option maxRecDepth 100000 in
theorem coth_t_c248 (x : Int) (hx : x = 248) (w : World) :
    Calls Try.prog 7 #[.int .u8 x, .bool true] w fun r w' => r = .returned (.bool true) ∧ Keeps [] w w' := by
  subst hx
  have HE := Lib.hid (show ((othSt 2).step (248 : Int)).2.c.e = 8 from rfl)
  go_enter Try.func7, Try.ntmps7
  go_wp2_with fail
  refine (calive_any w).mono ?_
  rintro e w1 ⟨rfl, k1⟩
  have K1 := Lib.hid k1
  have z1 := k1.size
  clear k1
  go_wp2_with fail
  refine (cpnew_yes 4 (by omega) w1).mono ?_
  rintro e w2 ⟨rfl, hin2, k2⟩
  have HIN2 := Lib.hid hin2
  have K2 := Lib.hid (K1.out.trans k2)
  have z2 := k2.size
  clear hin2 k2
  go_wp2_with fail
  go_loopw [11] (fun i wr => OthRel 2 w w1.heap.size i wr) (fun i _ => 2 - (intOf i).toNat)
  case atStart => exact ⟨0, _, _, Nat.zero_le _, rfl, ⟨HIN2.out, Cb.fit_new (by omega), by omega, z2⟩, K2.out⟩
  case round =>
    obtain ⟨k, ov, sv, hk, rfl, hok, hK⟩ := hrel
    have HOK := Lib.hid hok
    have HK := Lib.hid hK
    clear hok hK
    rcases (show k = 0 ∨ k = 1 ∨ k = 2 by omega) with rfl | rfl | rfl
    · go_wp2_with fail
      have hst := cstepped HOK.out 159 (by omega) (by omega) z1 HK.out (by omega)
      rw [othSt_0] at hst
      refine hst.mono ?_
      clear hst
      rintro e w3 ⟨v3, ov3, sv3, rfl, hown3, hok3, k3, z3⟩
      obtain ⟨a3, c3, rfl⟩ := hown3.shape
      have HOK3 := Lib.hid (show CbOk _ _ _ _ _ _ (othSt 1) from hok3)
      have K3 := Lib.hid k3
      clear hown3 hok3 k3
      simp only [othSt]
      go_wp2_with fail
      go_roundw
      case rel => exact ⟨1, ov3, sv3, by omega, by go_num, HOK3.out, K3.out⟩
      case measure => simp [intOf]
    · go_wp2_with fail
      have hst := cstepped HOK.out 1 (by omega) (by omega) z1 HK.out (by omega)
      rw [othSt_1] at hst
      refine hst.mono ?_
      clear hst
      rintro e w3 ⟨v3, ov3, sv3, rfl, hown3, hok3, k3, z3⟩
      obtain ⟨a3, c3, rfl⟩ := hown3.shape
      have HOK3 := Lib.hid (show CbOk _ _ _ _ _ _ (othSt 2) from hok3)
      have K3 := Lib.hid k3
      clear hown3 hok3 k3
      simp only [othSt]
      go_wp2_with fail
      go_roundw
      case rel => exact ⟨2, ov3, sv3, by omega, by go_num, HOK3.out, K3.out⟩
      case measure => simp [intOf]
    · go_wp2_with fail
      have hst := cstepped HOK.out (248 : Int) (by omega) (by omega) z1 HK.out (by omega)
      rw [HE.out] at hst
      refine hst.mono ?_
      clear hst
      rintro e w4 ⟨v4, ov4, sv4, rfl, hown4, hok4, k4, z4⟩
      obtain ⟨a4, c4, rfl⟩ := hown4.shape
      have K4 := Lib.hid k4
      clear hown4 hok4 k4
      go_wp2_with fail
      go_ret
      exact ⟨rfl, K4.out⟩

set_option maxHeartbeats 1600000 in
set_option maxRecDepth 100000 in
theorem coth_t_c244 (x : Int) (hx : x = 244) (w : World) :
    Calls Try.prog 7 #[.int .u8 x, .bool true] w fun r w' => r = .returned (.bool true) ∧ Keeps [] w w' := by
  subst hx
  have HE := Lib.hid (show ((othSt 2).step (244 : Int)).2.c.e = 0 from rfl)
  go_enter Try.func7, Try.ntmps7
  go_wp2_with fail
  refine (calive_any w).mono ?_
  rintro e w1 ⟨rfl, k1⟩
  have K1 := Lib.hid k1
  have z1 := k1.size
  clear k1
  go_wp2_with fail
  refine (cpnew_yes 4 (by omega) w1).mono ?_
  rintro e w2 ⟨rfl, hin2, k2⟩
  have HIN2 := Lib.hid hin2
  have K2 := Lib.hid (K1.out.trans k2)
  have z2 := k2.size
  clear hin2 k2
  go_wp2_with fail
  go_loopw [11] (fun i wr => OthRel 2 w w1.heap.size i wr) (fun i _ => 2 - (intOf i).toNat)
  case atStart => exact ⟨0, _, _, Nat.zero_le _, rfl, ⟨HIN2.out, Cb.fit_new (by omega), by omega, z2⟩, K2.out⟩
  case round =>
    obtain ⟨k, ov, sv, hk, rfl, hok, hK⟩ := hrel
    have HOK := Lib.hid hok
    have HK := Lib.hid hK
    clear hok hK
    rcases (show k = 0 ∨ k = 1 ∨ k = 2 by omega) with rfl | rfl | rfl
    · go_wp2_with fail
      have hst := cstepped HOK.out 159 (by omega) (by omega) z1 HK.out (by omega)
      rw [othSt_0] at hst
      refine hst.mono ?_
      clear hst
      rintro e w3 ⟨v3, ov3, sv3, rfl, hown3, hok3, k3, z3⟩
      obtain ⟨a3, c3, rfl⟩ := hown3.shape
      have HOK3 := Lib.hid (show CbOk _ _ _ _ _ _ (othSt 1) from hok3)
      have K3 := Lib.hid k3
      clear hown3 hok3 k3
      simp only [othSt]
      go_wp2_with fail
      go_roundw
      case rel => exact ⟨1, ov3, sv3, by omega, by go_num, HOK3.out, K3.out⟩
      case measure => simp [intOf]
    · go_wp2_with fail
      have hst := cstepped HOK.out 1 (by omega) (by omega) z1 HK.out (by omega)
      rw [othSt_1] at hst
      refine hst.mono ?_
      clear hst
      rintro e w3 ⟨v3, ov3, sv3, rfl, hown3, hok3, k3, z3⟩
      obtain ⟨a3, c3, rfl⟩ := hown3.shape
      have HOK3 := Lib.hid (show CbOk _ _ _ _ _ _ (othSt 2) from hok3)
      have K3 := Lib.hid k3
      clear hown3 hok3 k3
      simp only [othSt]
      go_wp2_with fail
      go_roundw
      case rel => exact ⟨2, ov3, sv3, by omega, by go_num, HOK3.out, K3.out⟩
      case measure => simp [intOf]
    · go_wp2_with fail
      have hst := cstepped HOK.out (244 : Int) (by omega) (by omega) z1 HK.out (by omega)
      rw [HE.out] at hst
      refine hst.mono ?_
      clear hst
      rintro e w4 ⟨v4, ov4, sv4, rfl, hown4, hok4, k4, z4⟩
      obtain ⟨a4, c4, rfl⟩ := hown4.shape
      have K4 := Lib.hid k4
      clear hown4 hok4 k4
      go_wp2_with fail
      go_ret
      exact ⟨rfl, K4.out⟩

set_option maxHeartbeats 1600000 in
set_option maxRecDepth 100000 in
theorem coth_t_c245 (x : Int) (hx : x = 245) (w : World) :
    Calls Try.prog 7 #[.int .u8 x, .bool true] w fun r w' => r = .returned (.bool true) ∧ Keeps [] w w' := by
  subst hx
  have HE := Lib.hid (show ((othSt 2).step (245 : Int)).2.c.e = 0 from rfl)
  go_enter Try.func7, Try.ntmps7
  go_wp2_with fail
  refine (calive_any w).mono ?_
  rintro e w1 ⟨rfl, k1⟩
  have K1 := Lib.hid k1
  have z1 := k1.size
  clear k1
  go_wp2_with fail
  refine (cpnew_yes 4 (by omega) w1).mono ?_
  rintro e w2 ⟨rfl, hin2, k2⟩
  have HIN2 := Lib.hid hin2
  have K2 := Lib.hid (K1.out.trans k2)
  have z2 := k2.size
  clear hin2 k2
  go_wp2_with fail
  go_loopw [11] (fun i wr => OthRel 2 w w1.heap.size i wr) (fun i _ => 2 - (intOf i).toNat)
  case atStart => exact ⟨0, _, _, Nat.zero_le _, rfl, ⟨HIN2.out, Cb.fit_new (by omega), by omega, z2⟩, K2.out⟩
  case round =>
    obtain ⟨k, ov, sv, hk, rfl, hok, hK⟩ := hrel
    have HOK := Lib.hid hok
    have HK := Lib.hid hK
    clear hok hK
    rcases (show k = 0 ∨ k = 1 ∨ k = 2 by omega) with rfl | rfl | rfl
    · go_wp2_with fail
      have hst := cstepped HOK.out 159 (by omega) (by omega) z1 HK.out (by omega)
      rw [othSt_0] at hst
      refine hst.mono ?_
      clear hst
      rintro e w3 ⟨v3, ov3, sv3, rfl, hown3, hok3, k3, z3⟩
      obtain ⟨a3, c3, rfl⟩ := hown3.shape
      have HOK3 := Lib.hid (show CbOk _ _ _ _ _ _ (othSt 1) from hok3)
      have K3 := Lib.hid k3
      clear hown3 hok3 k3
      simp only [othSt]
      go_wp2_with fail
      go_roundw
      case rel => exact ⟨1, ov3, sv3, by omega, by go_num, HOK3.out, K3.out⟩
      case measure => simp [intOf]
    · go_wp2_with fail
      have hst := cstepped HOK.out 1 (by omega) (by omega) z1 HK.out (by omega)
      rw [othSt_1] at hst
      refine hst.mono ?_
      clear hst
      rintro e w3 ⟨v3, ov3, sv3, rfl, hown3, hok3, k3, z3⟩
      obtain ⟨a3, c3, rfl⟩ := hown3.shape
      have HOK3 := Lib.hid (show CbOk _ _ _ _ _ _ (othSt 2) from hok3)
      have K3 := Lib.hid k3
      clear hown3 hok3 k3
      simp only [othSt]
      go_wp2_with fail
      go_roundw
      case rel => exact ⟨2, ov3, sv3, by omega, by go_num, HOK3.out, K3.out⟩
      case measure => simp [intOf]
    · go_wp2_with fail
      have hst := cstepped HOK.out (245 : Int) (by omega) (by omega) z1 HK.out (by omega)
      rw [HE.out] at hst
      refine hst.mono ?_
      clear hst
      rintro e w4 ⟨v4, ov4, sv4, rfl, hown4, hok4, k4, z4⟩
      obtain ⟨a4, c4, rfl⟩ := hown4.shape
      have K4 := Lib.hid k4
      clear hown4 hok4 k4
      go_wp2_with fail
      go_ret
      exact ⟨rfl, K4.out⟩

set_option maxHeartbeats 1600000 in
set_option maxRecDepth 100000 in
theorem coth_t_c246 (x : Int) (hx : x = 246) (w : World) :
    Calls Try.prog 7 #[.int .u8 x, .bool true] w fun r w' => r = .returned (.bool true) ∧ Keeps [] w w' := by
  subst hx
  have HE := Lib.hid (show ((othSt 2).step (246 : Int)).2.c.e = 0 from rfl)
  go_enter Try.func7, Try.ntmps7
  go_wp2_with fail
  refine (calive_any w).mono ?_
  rintro e w1 ⟨rfl, k1⟩
  have K1 := Lib.hid k1
  have z1 := k1.size
  clear k1
  go_wp2_with fail
  refine (cpnew_yes 4 (by omega) w1).mono ?_
  rintro e w2 ⟨rfl, hin2, k2⟩
  have HIN2 := Lib.hid hin2
  have K2 := Lib.hid (K1.out.trans k2)
  have z2 := k2.size
  clear hin2 k2
  go_wp2_with fail
  go_loopw [11] (fun i wr => OthRel 2 w w1.heap.size i wr) (fun i _ => 2 - (intOf i).toNat)
  case atStart => exact ⟨0, _, _, Nat.zero_le _, rfl, ⟨HIN2.out, Cb.fit_new (by omega), by omega, z2⟩, K2.out⟩
  case round =>
    obtain ⟨k, ov, sv, hk, rfl, hok, hK⟩ := hrel
    have HOK := Lib.hid hok
    have HK := Lib.hid hK
    clear hok hK
    rcases (show k = 0 ∨ k = 1 ∨ k = 2 by omega) with rfl | rfl | rfl
    · go_wp2_with fail
      have hst := cstepped HOK.out 159 (by omega) (by omega) z1 HK.out (by omega)
      rw [othSt_0] at hst
      refine hst.mono ?_
      clear hst
      rintro e w3 ⟨v3, ov3, sv3, rfl, hown3, hok3, k3, z3⟩
      obtain ⟨a3, c3, rfl⟩ := hown3.shape
      have HOK3 := Lib.hid (show CbOk _ _ _ _ _ _ (othSt 1) from hok3)
      have K3 := Lib.hid k3
      clear hown3 hok3 k3
      simp only [othSt]
      go_wp2_with fail
      go_roundw
      case rel => exact ⟨1, ov3, sv3, by omega, by go_num, HOK3.out, K3.out⟩
      case measure => simp [intOf]
    · go_wp2_with fail
      have hst := cstepped HOK.out 1 (by omega) (by omega) z1 HK.out (by omega)
      rw [othSt_1] at hst
      refine hst.mono ?_
      clear hst
      rintro e w3 ⟨v3, ov3, sv3, rfl, hown3, hok3, k3, z3⟩
      obtain ⟨a3, c3, rfl⟩ := hown3.shape
      have HOK3 := Lib.hid (show CbOk _ _ _ _ _ _ (othSt 2) from hok3)
      have K3 := Lib.hid k3
      clear hown3 hok3 k3
      simp only [othSt]
      go_wp2_with fail
      go_roundw
      case rel => exact ⟨2, ov3, sv3, by omega, by go_num, HOK3.out, K3.out⟩
      case measure => simp [intOf]
    · go_wp2_with fail
      have hst := cstepped HOK.out (246 : Int) (by omega) (by omega) z1 HK.out (by omega)
      rw [HE.out] at hst
      refine hst.mono ?_
      clear hst
      rintro e w4 ⟨v4, ov4, sv4, rfl, hown4, hok4, k4, z4⟩
      obtain ⟨a4, c4, rfl⟩ := hown4.shape
      have K4 := Lib.hid k4
      clear hown4 hok4 k4
      go_wp2_with fail
      go_ret
      exact ⟨rfl, K4.out⟩

set_option maxHeartbeats 1600000 in
set_option maxRecDepth 100000 in
theorem coth_t_c95 (x : Int) (hx : x = 95) (w : World) :
    Calls Try.prog 7 #[.int .u8 x, .bool true] w fun r w' => r = .returned (.bool true) ∧ Keeps [] w w' := by
  subst hx
  have HE := Lib.hid (show ((othSt 2).step (95 : Int)).2.c.e = 0 from rfl)
  go_enter Try.func7, Try.ntmps7
  go_wp2_with fail
  refine (calive_any w).mono ?_
  rintro e w1 ⟨rfl, k1⟩
  have K1 := Lib.hid k1
  have z1 := k1.size
  clear k1
  go_wp2_with fail
  refine (cpnew_yes 4 (by omega) w1).mono ?_
  rintro e w2 ⟨rfl, hin2, k2⟩
  have HIN2 := Lib.hid hin2
  have K2 := Lib.hid (K1.out.trans k2)
  have z2 := k2.size
  clear hin2 k2
  go_wp2_with fail
  go_loopw [11] (fun i wr => OthRel 2 w w1.heap.size i wr) (fun i _ => 2 - (intOf i).toNat)
  case atStart => exact ⟨0, _, _, Nat.zero_le _, rfl, ⟨HIN2.out, Cb.fit_new (by omega), by omega, z2⟩, K2.out⟩
  case round =>
    obtain ⟨k, ov, sv, hk, rfl, hok, hK⟩ := hrel
    have HOK := Lib.hid hok
    have HK := Lib.hid hK
    clear hok hK
    rcases (show k = 0 ∨ k = 1 ∨ k = 2 by omega) with rfl | rfl | rfl
    · go_wp2_with fail
      have hst := cstepped HOK.out 159 (by omega) (by omega) z1 HK.out (by omega)
      rw [othSt_0] at hst
      refine hst.mono ?_
      clear hst
      rintro e w3 ⟨v3, ov3, sv3, rfl, hown3, hok3, k3, z3⟩
      obtain ⟨a3, c3, rfl⟩ := hown3.shape
      have HOK3 := Lib.hid (show CbOk _ _ _ _ _ _ (othSt 1) from hok3)
      have K3 := Lib.hid k3
      clear hown3 hok3 k3
      simp only [othSt]
      go_wp2_with fail
      go_roundw
      case rel => exact ⟨1, ov3, sv3, by omega, by go_num, HOK3.out, K3.out⟩
      case measure => simp [intOf]
    · go_wp2_with fail
      have hst := cstepped HOK.out 1 (by omega) (by omega) z1 HK.out (by omega)
      rw [othSt_1] at hst
      refine hst.mono ?_
      clear hst
      rintro e w3 ⟨v3, ov3, sv3, rfl, hown3, hok3, k3, z3⟩
      obtain ⟨a3, c3, rfl⟩ := hown3.shape
      have HOK3 := Lib.hid (show CbOk _ _ _ _ _ _ (othSt 2) from hok3)
      have K3 := Lib.hid k3
      clear hown3 hok3 k3
      simp only [othSt]
      go_wp2_with fail
      go_roundw
      case rel => exact ⟨2, ov3, sv3, by omega, by go_num, HOK3.out, K3.out⟩
      case measure => simp [intOf]
    · go_wp2_with fail
      have hst := cstepped HOK.out (95 : Int) (by omega) (by omega) z1 HK.out (by omega)
      rw [HE.out] at hst
      refine hst.mono ?_
      clear hst
      rintro e w4 ⟨v4, ov4, sv4, rfl, hown4, hok4, k4, z4⟩
      obtain ⟨a4, c4, rfl⟩ := hown4.shape
      have K4 := Lib.hid k4
      clear hown4 hok4 k4
      go_wp2_with fail
      go_ret
      exact ⟨rfl, K4.out⟩

set_option maxHeartbeats 1600000 in
set_option maxRecDepth 100000 in
theorem coth_t_c127 (x : Int) (hx : x = 127) (w : World) :
    Calls Try.prog 7 #[.int .u8 x, .bool true] w fun r w' => r = .returned (.bool true) ∧ Keeps [] w w' := by
  subst hx
  have HE := Lib.hid (show ((othSt 2).step (127 : Int)).2.c.e = 0 from rfl)
  go_enter Try.func7, Try.ntmps7
  go_wp2_with fail
  refine (calive_any w).mono ?_
  rintro e w1 ⟨rfl, k1⟩
  have K1 := Lib.hid k1
  have z1 := k1.size
  clear k1
  go_wp2_with fail
  refine (cpnew_yes 4 (by omega) w1).mono ?_
  rintro e w2 ⟨rfl, hin2, k2⟩
  have HIN2 := Lib.hid hin2
  have K2 := Lib.hid (K1.out.trans k2)
  have z2 := k2.size
  clear hin2 k2
  go_wp2_with fail
  go_loopw [11] (fun i wr => OthRel 2 w w1.heap.size i wr) (fun i _ => 2 - (intOf i).toNat)
  case atStart => exact ⟨0, _, _, Nat.zero_le _, rfl, ⟨HIN2.out, Cb.fit_new (by omega), by omega, z2⟩, K2.out⟩
  case round =>
    obtain ⟨k, ov, sv, hk, rfl, hok, hK⟩ := hrel
    have HOK := Lib.hid hok
    have HK := Lib.hid hK
    clear hok hK
    rcases (show k = 0 ∨ k = 1 ∨ k = 2 by omega) with rfl | rfl | rfl
    · go_wp2_with fail
      have hst := cstepped HOK.out 159 (by omega) (by omega) z1 HK.out (by omega)
      rw [othSt_0] at hst
      refine hst.mono ?_
      clear hst
      rintro e w3 ⟨v3, ov3, sv3, rfl, hown3, hok3, k3, z3⟩
      obtain ⟨a3, c3, rfl⟩ := hown3.shape
      have HOK3 := Lib.hid (show CbOk _ _ _ _ _ _ (othSt 1) from hok3)
      have K3 := Lib.hid k3
      clear hown3 hok3 k3
      simp only [othSt]
      go_wp2_with fail
      go_roundw
      case rel => exact ⟨1, ov3, sv3, by omega, by go_num, HOK3.out, K3.out⟩
      case measure => simp [intOf]
    · go_wp2_with fail
      have hst := cstepped HOK.out 1 (by omega) (by omega) z1 HK.out (by omega)
      rw [othSt_1] at hst
      refine hst.mono ?_
      clear hst
      rintro e w3 ⟨v3, ov3, sv3, rfl, hown3, hok3, k3, z3⟩
      obtain ⟨a3, c3, rfl⟩ := hown3.shape
      have HOK3 := Lib.hid (show CbOk _ _ _ _ _ _ (othSt 2) from hok3)
      have K3 := Lib.hid k3
      clear hown3 hok3 k3
      simp only [othSt]
      go_wp2_with fail
      go_roundw
      case rel => exact ⟨2, ov3, sv3, by omega, by go_num, HOK3.out, K3.out⟩
      case measure => simp [intOf]
    · go_wp2_with fail
      have hst := cstepped HOK.out (127 : Int) (by omega) (by omega) z1 HK.out (by omega)
      rw [HE.out] at hst
      refine hst.mono ?_
      clear hst
      rintro e w4 ⟨v4, ov4, sv4, rfl, hown4, hok4, k4, z4⟩
      obtain ⟨a4, c4, rfl⟩ := hown4.shape
      have K4 := Lib.hid k4
      clear hown4 hok4 k4
      go_wp2_with fail
      go_ret
      exact ⟨rfl, K4.out⟩

set_option maxHeartbeats 1600000 in
set_option maxRecDepth 100000 in
theorem coth_t_c159 (x : Int) (hx : x = 159) (w : World) :
    Calls Try.prog 7 #[.int .u8 x, .bool true] w fun r w' => r = .returned (.bool true) ∧ Keeps [] w w' := by
  subst hx
  have HE := Lib.hid (show ((othSt 2).step (159 : Int)).2.c.e = 0 from rfl)
  go_enter Try.func7, Try.ntmps7
  go_wp2_with fail
  refine (calive_any w).mono ?_
  rintro e w1 ⟨rfl, k1⟩
  have K1 := Lib.hid k1
  have z1 := k1.size
  clear k1
  go_wp2_with fail
  refine (cpnew_yes 4 (by omega) w1).mono ?_
  rintro e w2 ⟨rfl, hin2, k2⟩
  have HIN2 := Lib.hid hin2
  have K2 := Lib.hid (K1.out.trans k2)
  have z2 := k2.size
  clear hin2 k2
  go_wp2_with fail
  go_loopw [11] (fun i wr => OthRel 2 w w1.heap.size i wr) (fun i _ => 2 - (intOf i).toNat)
  case atStart => exact ⟨0, _, _, Nat.zero_le _, rfl, ⟨HIN2.out, Cb.fit_new (by omega), by omega, z2⟩, K2.out⟩
  case round =>
    obtain ⟨k, ov, sv, hk, rfl, hok, hK⟩ := hrel
    have HOK := Lib.hid hok
    have HK := Lib.hid hK
    clear hok hK
    rcases (show k = 0 ∨ k = 1 ∨ k = 2 by omega) with rfl | rfl | rfl
    · go_wp2_with fail
      have hst := cstepped HOK.out 159 (by omega) (by omega) z1 HK.out (by omega)
      rw [othSt_0] at hst
      refine hst.mono ?_
      clear hst
      rintro e w3 ⟨v3, ov3, sv3, rfl, hown3, hok3, k3, z3⟩
      obtain ⟨a3, c3, rfl⟩ := hown3.shape
      have HOK3 := Lib.hid (show CbOk _ _ _ _ _ _ (othSt 1) from hok3)
      have K3 := Lib.hid k3
      clear hown3 hok3 k3
      simp only [othSt]
      go_wp2_with fail
      go_roundw
      case rel => exact ⟨1, ov3, sv3, by omega, by go_num, HOK3.out, K3.out⟩
      case measure => simp [intOf]
    · go_wp2_with fail
      have hst := cstepped HOK.out 1 (by omega) (by omega) z1 HK.out (by omega)
      rw [othSt_1] at hst
      refine hst.mono ?_
      clear hst
      rintro e w3 ⟨v3, ov3, sv3, rfl, hown3, hok3, k3, z3⟩
      obtain ⟨a3, c3, rfl⟩ := hown3.shape
      have HOK3 := Lib.hid (show CbOk _ _ _ _ _ _ (othSt 2) from hok3)
      have K3 := Lib.hid k3
      clear hown3 hok3 k3
      simp only [othSt]
      go_wp2_with fail
      go_roundw
      case rel => exact ⟨2, ov3, sv3, by omega, by go_num, HOK3.out, K3.out⟩
      case measure => simp [intOf]
    · go_wp2_with fail
      have hst := cstepped HOK.out (159 : Int) (by omega) (by omega) z1 HK.out (by omega)
      rw [HE.out] at hst
      refine hst.mono ?_
      clear hst
      rintro e w4 ⟨v4, ov4, sv4, rfl, hown4, hok4, k4, z4⟩
      obtain ⟨a4, c4, rfl⟩ := hown4.shape
      have K4 := Lib.hid k4
      clear hown4 hok4 k4
      go_wp2_with fail
      go_ret
      exact ⟨rfl, K4.out⟩

set_option maxHeartbeats 1600000 in
set_option maxRecDepth 100000 in
theorem coth_t_c191 (x : Int) (hx : x = 191) (w : World) :
    Calls Try.prog 7 #[.int .u8 x, .bool true] w fun r w' => r = .returned (.bool true) ∧ Keeps [] w w' := by
  subst hx
  have HE := Lib.hid (show ((othSt 2).step (191 : Int)).2.c.e = 0 from rfl)
  go_enter Try.func7, Try.ntmps7
  go_wp2_with fail
  refine (calive_any w).mono ?_
  rintro e w1 ⟨rfl, k1⟩
  have K1 := Lib.hid k1
  have z1 := k1.size
  clear k1
  go_wp2_with fail
  refine (cpnew_yes 4 (by omega) w1).mono ?_
  rintro e w2 ⟨rfl, hin2, k2⟩
  have HIN2 := Lib.hid hin2
  have K2 := Lib.hid (K1.out.trans k2)
  have z2 := k2.size
  clear hin2 k2
  go_wp2_with fail
  go_loopw [11] (fun i wr => OthRel 2 w w1.heap.size i wr) (fun i _ => 2 - (intOf i).toNat)
  case atStart => exact ⟨0, _, _, Nat.zero_le _, rfl, ⟨HIN2.out, Cb.fit_new (by omega), by omega, z2⟩, K2.out⟩
  case round =>
    obtain ⟨k, ov, sv, hk, rfl, hok, hK⟩ := hrel
    have HOK := Lib.hid hok
    have HK := Lib.hid hK
    clear hok hK
    rcases (show k = 0 ∨ k = 1 ∨ k = 2 by omega) with rfl | rfl | rfl
    · go_wp2_with fail
      have hst := cstepped HOK.out 159 (by omega) (by omega) z1 HK.out (by omega)
      rw [othSt_0] at hst
      refine hst.mono ?_
      clear hst
      rintro e w3 ⟨v3, ov3, sv3, rfl, hown3, hok3, k3, z3⟩
      obtain ⟨a3, c3, rfl⟩ := hown3.shape
      have HOK3 := Lib.hid (show CbOk _ _ _ _ _ _ (othSt 1) from hok3)
      have K3 := Lib.hid k3
      clear hown3 hok3 k3
      simp only [othSt]
      go_wp2_with fail
      go_roundw
      case rel => exact ⟨1, ov3, sv3, by omega, by go_num, HOK3.out, K3.out⟩
      case measure => simp [intOf]
    · go_wp2_with fail
      have hst := cstepped HOK.out 1 (by omega) (by omega) z1 HK.out (by omega)
      rw [othSt_1] at hst
      refine hst.mono ?_
      clear hst
      rintro e w3 ⟨v3, ov3, sv3, rfl, hown3, hok3, k3, z3⟩
      obtain ⟨a3, c3, rfl⟩ := hown3.shape
      have HOK3 := Lib.hid (show CbOk _ _ _ _ _ _ (othSt 2) from hok3)
      have K3 := Lib.hid k3
      clear hown3 hok3 k3
      simp only [othSt]
      go_wp2_with fail
      go_roundw
      case rel => exact ⟨2, ov3, sv3, by omega, by go_num, HOK3.out, K3.out⟩
      case measure => simp [intOf]
    · go_wp2_with fail
      have hst := cstepped HOK.out (191 : Int) (by omega) (by omega) z1 HK.out (by omega)
      rw [HE.out] at hst
      refine hst.mono ?_
      clear hst
      rintro e w4 ⟨v4, ov4, sv4, rfl, hown4, hok4, k4, z4⟩
      obtain ⟨a4, c4, rfl⟩ := hown4.shape
      have K4 := Lib.hid k4
      clear hown4 hok4 k4
      go_wp2_with fail
      go_ret
      exact ⟨rfl, K4.out⟩

theorem cborinOthers_walk (x : Int) (inn : Bool) (w : World) (hx : 0 ≤ x ∧ x ≤ 255) :
    Calls Try.prog 7 #[.int .u8 x, .bool inn] w fun r w' => r = .returned (.bool true) ∧ Below w.heap.size w w' := by
  refine Calls.mono (R := fun r w' => r = .returned (.bool true) ∧ Keeps [] w w') ?_ (fun r w' h => ⟨h.1, h.2.all⟩)
  have hw1 : x % 32 < 28 ∨ x % 32 = 28 ∨ x % 32 = 29 ∨ x % 32 = 30 ∨ x % 32 = 31 := by omega
  have hw2 : x % 32 = 31 → x = 31 ∨ x = 63 ∨ x = 95 ∨ x = 127 ∨ x = 159 ∨ x = 191 ∨ x = 223 ∨ x = 255 := by omega
  have hw3 : x % 32 < 28 → x / 32 ≤ 5 ∨ x / 32 = 6 ∨ (x / 32 = 7 ∧ x % 32 < 20) ∨ x = 244 ∨ x = 245 ∨ x = 246 ∨ x = 247 ∨ x = 248 ∨ x = 249 ∨ x = 250 ∨ x = 251 := by omega
  cases inn with
  | false =>
    rcases hw1 with h | h | h | h | h
    · rcases hw3 h with g | g | ⟨g, g2⟩ | g | g | g | g | g | g | g | g
      · exact coth_f_head x hx.1 hx.2 g h w
      · exact coth_f_tag x hx.1 hx.2 g h w
      · exact coth_f_simp x hx.1 hx.2 g g2 w
      · exact coth_f_c244 x g w
      · exact coth_f_c245 x g w
      · exact coth_f_c246 x g w
      · exact coth_f_c247 x g w
      · exact coth_f_c248 x g w
      · exact coth_f_c249 x g w
      · exact coth_f_c250 x g w
      · exact coth_f_c251 x g w
    · exact coth_f_low28 x hx.1 hx.2 h w
    · exact coth_f_low29 x hx.1 hx.2 h w
    · exact coth_f_low30 x hx.1 hx.2 h w
    · rcases hw2 h with g | g | g | g | g | g | g | g
      · exact coth_f_c31 x g w
      · exact coth_f_c63 x g w
      · exact coth_f_c95 x g w
      · exact coth_f_c127 x g w
      · exact coth_f_c159 x g w
      · exact coth_f_c191 x g w
      · exact coth_f_c223 x g w
      · exact coth_f_c255 x g w
  | true =>
    rcases hw1 with h | h | h | h | h
    · rcases hw3 h with g | g | ⟨g, g2⟩ | g | g | g | g | g | g | g | g
      · exact coth_t_head x hx.1 hx.2 g h w
      · exact coth_t_tag x hx.1 hx.2 g h w
      · exact coth_t_simp x hx.1 hx.2 g g2 w
      · exact coth_t_c244 x g w
      · exact coth_t_c245 x g w
      · exact coth_t_c246 x g w
      · exact coth_t_c247 x g w
      · exact coth_t_c248 x g w
      · exact coth_t_c249 x g w
      · exact coth_t_c250 x g w
      · exact coth_t_c251 x g w
    · exact coth_t_low28 x hx.1 hx.2 h w
    · exact coth_t_low29 x hx.1 hx.2 h w
    · exact coth_t_low30 x hx.1 hx.2 h w
    · rcases hw2 h with g | g | g | g | g | g | g | g
      · exact coth_t_c31 x g w
      · exact coth_t_c63 x g w
      · exact coth_t_c95 x g w
      · exact coth_t_c127 x g w
      · exact coth_t_c159 x g w
      · exact coth_t_c191 x g w
      · exact coth_t_c223 x g w
      · exact coth_t_c255 x g w
end Go.Proofs.Ytepajbimhpmpjaa
