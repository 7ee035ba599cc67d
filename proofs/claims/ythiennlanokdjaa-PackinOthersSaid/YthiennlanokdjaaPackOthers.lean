/-
  PackinOthers' walk.
-/
import Derived.Test.YthiennlanokdjaaPackAlive
import Derived.Test.YthiennlanokdjaaPackOthersPlain
namespace Go.Proofs.Ythiennlanokdjaa
open Go.RowKit Go.Tru

theorem pstepped {N : Int} {w0 w : World} {b : Nat} {ov sv : Value} {p : Pk} (h : PkOk N w b b ov sv p) (x : Int) (hx0 : 0 ≤ x) (hx1 : x ≤ 255) (hw : w0.heap.size ≤ b) (k : Keeps [] w0 w) (hbig : 0 ≤ N + 1 ∧ N + 1 ≤ 100000000) :
    Calls Try.prog 19 #[.pointer (some ⟨b, 0, none⟩), .int .u8 x] w fun r w' => ∃ v ov' sv', r = .returned (.tuple #[v, .int .i64 (p.step x).2.c.e]) ∧ OwnsAny w' w.heap.size v (p.step x).1 ∧ PkOk (N + 1) w' b b ov' sv' (p.step x).2 ∧ Keeps [] w0 w' ∧ w.heap.size ≤ w'.heap.size := by
  refine (pstep_any h x hx0 hx1).mono ?_
  rintro e w' ⟨v, rfl, hown, ov', sv', hin, hk, _⟩
  have hlow := coBlks_base h.in_ (Nat.le_refl _)
  exact ⟨v, ov', sv', rfl, hown, ⟨hin, Pk.fit_step h.big.1 h.fit ⟨hx0, hx1⟩, hbig, Nat.le_trans h.base_ hk.size⟩, k.trans' hk (fun i hi => Or.inr (Nat.le_trans hw (hlow i hi))), hk.size⟩

set_option maxHeartbeats 1600000 in
set_option maxRecDepth 100000 in
theorem others_a_0 (x : Int) (hx0 : 0 ≤ x) (hx1 : x ≤ 159) (w : World) :
    Calls Try.prog 6 #[.int .u8 x, .bool false] w fun r w' => r = .returned (.bool true) ∧ Keeps [] w w' := by
  have fge160 : ¬ 160 ≤ x := by omega
  have fle191 :  x ≤ 191 := by omega
  have fd191 : decide (x ≤ 191) = true := decide_eq_true (by omega)
  have fge217 : ¬ 217 ≤ x := by omega
  have fle219 :  x ≤ 219 := by omega
  have fd219 : decide (x ≤ 219) = true := decide_eq_true (by omega)
  have fge199 : ¬ 199 ≤ x := by omega
  have fle201 :  x ≤ 201 := by omega
  have fd201 : decide (x ≤ 201) = true := decide_eq_true (by omega)
  have fge212 : ¬ 212 ≤ x := by omega
  have fle216 :  x ≤ 216 := by omega
  have fd216 : decide (x ≤ 216) = true := decide_eq_true (by omega)
  have fe193 : (x == 193) = false := by simp; omega
  have fe202 : (x == 202) = false := by simp; omega
  have fe203 : (x == 203) = false := by simp; omega
  have HE := Lib.hid (show (pkArr.step x).2.c.e = 0 by
    rw [others_plain rfl rfl rfl rfl rfl rfl]
    show othersErr false x = 0
    unfold othersErr isTextB; rw [if_neg (by omega), if_neg (by rintro (⟨h, _⟩ | h) <;> first | (cases h; done) | omega), if_neg (by omega)])
  go_enter Try.func6, Try.ntmps6
  go_wp2_with fail
  refine (palive_any w).mono ?_
  rintro e w1 ⟨rfl, k1⟩
  have K1 := Lib.hid k1
  have z1 := k1.size
  clear k1
  go_wp2_with fail
  refine (pnew_yes 4 (by omega) w1).mono ?_
  rintro e w2 ⟨rfl, hin2, k2⟩
  have HIN2 := Lib.hid hin2
  have K2 := Lib.hid (K1.out.trans k2)
  have z2 := k2.size
  clear hin2 k2
  go_wp2_with fail
  have hst := pstepped (N := 0) (w0 := w) ⟨HIN2.out, Pk.fit_new (by omega), by omega, z2⟩ 145 (by omega) (by omega) z1 K2.out (by omega)
  rw [step_arr1] at hst
  refine hst.mono ?_
  clear hst
  rintro e w3 ⟨v3, ov3, sv3, rfl, hown3, hok3, k3, z3⟩
  have HOK3 := Lib.hid (show PkOk _ _ _ _ _ _ pkArr from hok3)
  have K3 := Lib.hid k3
  clear hown3 hok3 k3
  simp only [pkArr]
  go_wp2_with fail
  have hst := pstepped HOK3.out x (by omega) (by omega) z1 K3.out (by omega)
  rw [HE.out] at hst
  refine hst.mono ?_
  clear hst
  rintro e w4 ⟨v4, ov4, sv4, rfl, hown4, hok4, k4, z4⟩
  obtain ⟨a4, c4, rfl⟩ := hown4.shape
  have K4 := Lib.hid k4
  clear hown4 hok4 k4
  go_wp2_with fail
  go_ret
  exact ⟨rfl, K4.out⟩

set_option maxHeartbeats 1600000 in
set_option maxRecDepth 100000 in
theorem others_a_160 (x : Int) (hx0 : 160 ≤ x) (hx1 : x ≤ 191) (w : World) :
    Calls Try.prog 6 #[.int .u8 x, .bool false] w fun r w' => r = .returned (.bool true) ∧ Keeps [] w w' := by
  have fge160 :  160 ≤ x := by omega
  have fle191 :  x ≤ 191 := by omega
  have fd191 : decide (x ≤ 191) = true := decide_eq_true (by omega)
  have fge217 : ¬ 217 ≤ x := by omega
  have fle219 :  x ≤ 219 := by omega
  have fd219 : decide (x ≤ 219) = true := decide_eq_true (by omega)
  have fge199 : ¬ 199 ≤ x := by omega
  have fle201 :  x ≤ 201 := by omega
  have fd201 : decide (x ≤ 201) = true := decide_eq_true (by omega)
  have fge212 : ¬ 212 ≤ x := by omega
  have fle216 :  x ≤ 216 := by omega
  have fd216 : decide (x ≤ 216) = true := decide_eq_true (by omega)
  have fe193 : (x == 193) = false := by simp; omega
  have fe202 : (x == 202) = false := by simp; omega
  have fe203 : (x == 203) = false := by simp; omega
  have HE := Lib.hid (show (pkArr.step x).2.c.e = 0 by
    rw [others_plain rfl rfl rfl rfl rfl rfl]
    show othersErr false x = 0
    unfold othersErr isTextB; rw [if_neg (by omega), if_neg (by rintro (⟨h, _⟩ | h) <;> first | (cases h; done) | omega), if_neg (by omega)])
  go_enter Try.func6, Try.ntmps6
  go_wp2_with fail
  refine (palive_any w).mono ?_
  rintro e w1 ⟨rfl, k1⟩
  have K1 := Lib.hid k1
  have z1 := k1.size
  clear k1
  go_wp2_with fail
  refine (pnew_yes 4 (by omega) w1).mono ?_
  rintro e w2 ⟨rfl, hin2, k2⟩
  have HIN2 := Lib.hid hin2
  have K2 := Lib.hid (K1.out.trans k2)
  have z2 := k2.size
  clear hin2 k2
  go_wp2_with fail
  have hst := pstepped (N := 0) (w0 := w) ⟨HIN2.out, Pk.fit_new (by omega), by omega, z2⟩ 145 (by omega) (by omega) z1 K2.out (by omega)
  rw [step_arr1] at hst
  refine hst.mono ?_
  clear hst
  rintro e w3 ⟨v3, ov3, sv3, rfl, hown3, hok3, k3, z3⟩
  have HOK3 := Lib.hid (show PkOk _ _ _ _ _ _ pkArr from hok3)
  have K3 := Lib.hid k3
  clear hown3 hok3 k3
  simp only [pkArr]
  go_wp2_with fail
  have hst := pstepped HOK3.out x (by omega) (by omega) z1 K3.out (by omega)
  rw [HE.out] at hst
  refine hst.mono ?_
  clear hst
  rintro e w4 ⟨v4, ov4, sv4, rfl, hown4, hok4, k4, z4⟩
  obtain ⟨a4, c4, rfl⟩ := hown4.shape
  have K4 := Lib.hid k4
  clear hown4 hok4 k4
  go_wp2_with fail
  go_ret
  exact ⟨rfl, K4.out⟩

set_option maxHeartbeats 1600000 in
set_option maxRecDepth 100000 in
theorem others_a_192 (x : Int) (hx : x = 192) (w : World) :
    Calls Try.prog 6 #[.int .u8 x, .bool false] w fun r w' => r = .returned (.bool true) ∧ Keeps [] w w' := by
  subst hx
  have HE := Lib.hid (show (pkArr.step (192 : Int)).2.c.e = 0 by
    rw [others_plain rfl rfl rfl rfl rfl rfl]
    show othersErr false (192 : Int) = 0
    decide)
  go_enter Try.func6, Try.ntmps6
  go_wp2_with fail
  refine (palive_any w).mono ?_
  rintro e w1 ⟨rfl, k1⟩
  have K1 := Lib.hid k1
  have z1 := k1.size
  clear k1
  go_wp2_with fail
  refine (pnew_yes 4 (by omega) w1).mono ?_
  rintro e w2 ⟨rfl, hin2, k2⟩
  have HIN2 := Lib.hid hin2
  have K2 := Lib.hid (K1.out.trans k2)
  have z2 := k2.size
  clear hin2 k2
  go_wp2_with fail
  have hst := pstepped (N := 0) (w0 := w) ⟨HIN2.out, Pk.fit_new (by omega), by omega, z2⟩ 145 (by omega) (by omega) z1 K2.out (by omega)
  rw [step_arr1] at hst
  refine hst.mono ?_
  clear hst
  rintro e w3 ⟨v3, ov3, sv3, rfl, hown3, hok3, k3, z3⟩
  have HOK3 := Lib.hid (show PkOk _ _ _ _ _ _ pkArr from hok3)
  have K3 := Lib.hid k3
  clear hown3 hok3 k3
  simp only [pkArr]
  go_wp2_with fail
  have hst := pstepped HOK3.out (192 : Int) (by omega) (by omega) z1 K3.out (by omega)
  rw [HE.out] at hst
  refine hst.mono ?_
  clear hst
  rintro e w4 ⟨v4, ov4, sv4, rfl, hown4, hok4, k4, z4⟩
  obtain ⟨a4, c4, rfl⟩ := hown4.shape
  have K4 := Lib.hid k4
  clear hown4 hok4 k4
  go_wp2_with fail
  go_ret
  exact ⟨rfl, K4.out⟩

set_option maxHeartbeats 1600000 in
set_option maxRecDepth 100000 in
theorem others_a_193 (x : Int) (hx : x = 193) (w : World) :
    Calls Try.prog 6 #[.int .u8 x, .bool false] w fun r w' => r = .returned (.bool true) ∧ Keeps [] w w' := by
  subst hx
  have HE := Lib.hid (show (pkArr.step (193 : Int)).2.c.e = 2 by
    rw [others_plain rfl rfl rfl rfl rfl rfl]
    show othersErr false (193 : Int) = 2
    decide)
  go_enter Try.func6, Try.ntmps6
  go_wp2_with fail
  refine (palive_any w).mono ?_
  rintro e w1 ⟨rfl, k1⟩
  have K1 := Lib.hid k1
  have z1 := k1.size
  clear k1
  go_wp2_with fail
  refine (pnew_yes 4 (by omega) w1).mono ?_
  rintro e w2 ⟨rfl, hin2, k2⟩
  have HIN2 := Lib.hid hin2
  have K2 := Lib.hid (K1.out.trans k2)
  have z2 := k2.size
  clear hin2 k2
  go_wp2_with fail
  have hst := pstepped (N := 0) (w0 := w) ⟨HIN2.out, Pk.fit_new (by omega), by omega, z2⟩ 145 (by omega) (by omega) z1 K2.out (by omega)
  rw [step_arr1] at hst
  refine hst.mono ?_
  clear hst
  rintro e w3 ⟨v3, ov3, sv3, rfl, hown3, hok3, k3, z3⟩
  have HOK3 := Lib.hid (show PkOk _ _ _ _ _ _ pkArr from hok3)
  have K3 := Lib.hid k3
  clear hown3 hok3 k3
  simp only [pkArr]
  go_wp2_with fail
  have hst := pstepped HOK3.out (193 : Int) (by omega) (by omega) z1 K3.out (by omega)
  rw [HE.out] at hst
  refine hst.mono ?_
  clear hst
  rintro e w4 ⟨v4, ov4, sv4, rfl, hown4, hok4, k4, z4⟩
  obtain ⟨a4, c4, rfl⟩ := hown4.shape
  have K4 := Lib.hid k4
  clear hown4 hok4 k4
  go_wp2_with fail
  go_ret
  exact ⟨rfl, K4.out⟩

set_option maxHeartbeats 1600000 in
set_option maxRecDepth 100000 in
theorem others_a_194 (x : Int) (hx0 : 194 ≤ x) (hx1 : x ≤ 198) (w : World) :
    Calls Try.prog 6 #[.int .u8 x, .bool false] w fun r w' => r = .returned (.bool true) ∧ Keeps [] w w' := by
  have fge160 :  160 ≤ x := by omega
  have fle191 : ¬ x ≤ 191 := by omega
  have fd191 : decide (x ≤ 191) = false := decide_eq_false (by omega)
  have fge217 : ¬ 217 ≤ x := by omega
  have fle219 :  x ≤ 219 := by omega
  have fd219 : decide (x ≤ 219) = true := decide_eq_true (by omega)
  have fge199 : ¬ 199 ≤ x := by omega
  have fle201 :  x ≤ 201 := by omega
  have fd201 : decide (x ≤ 201) = true := decide_eq_true (by omega)
  have fge212 : ¬ 212 ≤ x := by omega
  have fle216 :  x ≤ 216 := by omega
  have fd216 : decide (x ≤ 216) = true := decide_eq_true (by omega)
  have fe193 : (x == 193) = false := by simp; omega
  have fe202 : (x == 202) = false := by simp; omega
  have fe203 : (x == 203) = false := by simp; omega
  have HE := Lib.hid (show (pkArr.step x).2.c.e = 0 by
    rw [others_plain rfl rfl rfl rfl rfl rfl]
    show othersErr false x = 0
    unfold othersErr isTextB; rw [if_neg (by omega), if_neg (by rintro (⟨h, _⟩ | h) <;> first | (cases h; done) | omega), if_neg (by omega)])
  go_enter Try.func6, Try.ntmps6
  go_wp2_with fail
  refine (palive_any w).mono ?_
  rintro e w1 ⟨rfl, k1⟩
  have K1 := Lib.hid k1
  have z1 := k1.size
  clear k1
  go_wp2_with fail
  refine (pnew_yes 4 (by omega) w1).mono ?_
  rintro e w2 ⟨rfl, hin2, k2⟩
  have HIN2 := Lib.hid hin2
  have K2 := Lib.hid (K1.out.trans k2)
  have z2 := k2.size
  clear hin2 k2
  go_wp2_with fail
  have hst := pstepped (N := 0) (w0 := w) ⟨HIN2.out, Pk.fit_new (by omega), by omega, z2⟩ 145 (by omega) (by omega) z1 K2.out (by omega)
  rw [step_arr1] at hst
  refine hst.mono ?_
  clear hst
  rintro e w3 ⟨v3, ov3, sv3, rfl, hown3, hok3, k3, z3⟩
  have HOK3 := Lib.hid (show PkOk _ _ _ _ _ _ pkArr from hok3)
  have K3 := Lib.hid k3
  clear hown3 hok3 k3
  simp only [pkArr]
  go_wp2_with fail
  have hst := pstepped HOK3.out x (by omega) (by omega) z1 K3.out (by omega)
  rw [HE.out] at hst
  refine hst.mono ?_
  clear hst
  rintro e w4 ⟨v4, ov4, sv4, rfl, hown4, hok4, k4, z4⟩
  obtain ⟨a4, c4, rfl⟩ := hown4.shape
  have K4 := Lib.hid k4
  clear hown4 hok4 k4
  go_wp2_with fail
  go_ret
  exact ⟨rfl, K4.out⟩

set_option maxHeartbeats 1600000 in
set_option maxRecDepth 100000 in
theorem others_a_199 (x : Int) (hx0 : 199 ≤ x) (hx1 : x ≤ 201) (w : World) :
    Calls Try.prog 6 #[.int .u8 x, .bool false] w fun r w' => r = .returned (.bool true) ∧ Keeps [] w w' := by
  have fge160 :  160 ≤ x := by omega
  have fle191 : ¬ x ≤ 191 := by omega
  have fd191 : decide (x ≤ 191) = false := decide_eq_false (by omega)
  have fge217 : ¬ 217 ≤ x := by omega
  have fle219 :  x ≤ 219 := by omega
  have fd219 : decide (x ≤ 219) = true := decide_eq_true (by omega)
  have fge199 :  199 ≤ x := by omega
  have fle201 :  x ≤ 201 := by omega
  have fd201 : decide (x ≤ 201) = true := decide_eq_true (by omega)
  have fge212 : ¬ 212 ≤ x := by omega
  have fle216 :  x ≤ 216 := by omega
  have fd216 : decide (x ≤ 216) = true := decide_eq_true (by omega)
  have fe193 : (x == 193) = false := by simp; omega
  have fe202 : (x == 202) = false := by simp; omega
  have fe203 : (x == 203) = false := by simp; omega
  have HE := Lib.hid (show (pkArr.step x).2.c.e = 8 by
    rw [others_plain rfl rfl rfl rfl rfl rfl]
    show othersErr false x = 8
    unfold othersErr isTextB; rw [if_neg (by omega), if_pos (by right; omega)])
  go_enter Try.func6, Try.ntmps6
  go_wp2_with fail
  refine (palive_any w).mono ?_
  rintro e w1 ⟨rfl, k1⟩
  have K1 := Lib.hid k1
  have z1 := k1.size
  clear k1
  go_wp2_with fail
  refine (pnew_yes 4 (by omega) w1).mono ?_
  rintro e w2 ⟨rfl, hin2, k2⟩
  have HIN2 := Lib.hid hin2
  have K2 := Lib.hid (K1.out.trans k2)
  have z2 := k2.size
  clear hin2 k2
  go_wp2_with fail
  have hst := pstepped (N := 0) (w0 := w) ⟨HIN2.out, Pk.fit_new (by omega), by omega, z2⟩ 145 (by omega) (by omega) z1 K2.out (by omega)
  rw [step_arr1] at hst
  refine hst.mono ?_
  clear hst
  rintro e w3 ⟨v3, ov3, sv3, rfl, hown3, hok3, k3, z3⟩
  have HOK3 := Lib.hid (show PkOk _ _ _ _ _ _ pkArr from hok3)
  have K3 := Lib.hid k3
  clear hown3 hok3 k3
  simp only [pkArr]
  go_wp2_with fail
  have hst := pstepped HOK3.out x (by omega) (by omega) z1 K3.out (by omega)
  rw [HE.out] at hst
  refine hst.mono ?_
  clear hst
  rintro e w4 ⟨v4, ov4, sv4, rfl, hown4, hok4, k4, z4⟩
  obtain ⟨a4, c4, rfl⟩ := hown4.shape
  have K4 := Lib.hid k4
  clear hown4 hok4 k4
  go_wp2_with fail
  go_ret
  exact ⟨rfl, K4.out⟩

set_option maxHeartbeats 1600000 in
set_option maxRecDepth 100000 in
theorem others_a_202 (x : Int) (hx : x = 202) (w : World) :
    Calls Try.prog 6 #[.int .u8 x, .bool false] w fun r w' => r = .returned (.bool true) ∧ Keeps [] w w' := by
  subst hx
  have HE := Lib.hid (show (pkArr.step (202 : Int)).2.c.e = 6 by
    rw [others_plain rfl rfl rfl rfl rfl rfl]
    show othersErr false (202 : Int) = 6
    decide)
  go_enter Try.func6, Try.ntmps6
  go_wp2_with fail
  refine (palive_any w).mono ?_
  rintro e w1 ⟨rfl, k1⟩
  have K1 := Lib.hid k1
  have z1 := k1.size
  clear k1
  go_wp2_with fail
  refine (pnew_yes 4 (by omega) w1).mono ?_
  rintro e w2 ⟨rfl, hin2, k2⟩
  have HIN2 := Lib.hid hin2
  have K2 := Lib.hid (K1.out.trans k2)
  have z2 := k2.size
  clear hin2 k2
  go_wp2_with fail
  have hst := pstepped (N := 0) (w0 := w) ⟨HIN2.out, Pk.fit_new (by omega), by omega, z2⟩ 145 (by omega) (by omega) z1 K2.out (by omega)
  rw [step_arr1] at hst
  refine hst.mono ?_
  clear hst
  rintro e w3 ⟨v3, ov3, sv3, rfl, hown3, hok3, k3, z3⟩
  have HOK3 := Lib.hid (show PkOk _ _ _ _ _ _ pkArr from hok3)
  have K3 := Lib.hid k3
  clear hown3 hok3 k3
  simp only [pkArr]
  go_wp2_with fail
  have hst := pstepped HOK3.out (202 : Int) (by omega) (by omega) z1 K3.out (by omega)
  rw [HE.out] at hst
  refine hst.mono ?_
  clear hst
  rintro e w4 ⟨v4, ov4, sv4, rfl, hown4, hok4, k4, z4⟩
  obtain ⟨a4, c4, rfl⟩ := hown4.shape
  have K4 := Lib.hid k4
  clear hown4 hok4 k4
  go_wp2_with fail
  go_ret
  exact ⟨rfl, K4.out⟩

set_option maxHeartbeats 1600000 in
set_option maxRecDepth 100000 in
theorem others_a_203 (x : Int) (hx : x = 203) (w : World) :
    Calls Try.prog 6 #[.int .u8 x, .bool false] w fun r w' => r = .returned (.bool true) ∧ Keeps [] w w' := by
  subst hx
  have HE := Lib.hid (show (pkArr.step (203 : Int)).2.c.e = 6 by
    rw [others_plain rfl rfl rfl rfl rfl rfl]
    show othersErr false (203 : Int) = 6
    decide)
  go_enter Try.func6, Try.ntmps6
  go_wp2_with fail
  refine (palive_any w).mono ?_
  rintro e w1 ⟨rfl, k1⟩
  have K1 := Lib.hid k1
  have z1 := k1.size
  clear k1
  go_wp2_with fail
  refine (pnew_yes 4 (by omega) w1).mono ?_
  rintro e w2 ⟨rfl, hin2, k2⟩
  have HIN2 := Lib.hid hin2
  have K2 := Lib.hid (K1.out.trans k2)
  have z2 := k2.size
  clear hin2 k2
  go_wp2_with fail
  have hst := pstepped (N := 0) (w0 := w) ⟨HIN2.out, Pk.fit_new (by omega), by omega, z2⟩ 145 (by omega) (by omega) z1 K2.out (by omega)
  rw [step_arr1] at hst
  refine hst.mono ?_
  clear hst
  rintro e w3 ⟨v3, ov3, sv3, rfl, hown3, hok3, k3, z3⟩
  have HOK3 := Lib.hid (show PkOk _ _ _ _ _ _ pkArr from hok3)
  have K3 := Lib.hid k3
  clear hown3 hok3 k3
  simp only [pkArr]
  go_wp2_with fail
  have hst := pstepped HOK3.out (203 : Int) (by omega) (by omega) z1 K3.out (by omega)
  rw [HE.out] at hst
  refine hst.mono ?_
  clear hst
  rintro e w4 ⟨v4, ov4, sv4, rfl, hown4, hok4, k4, z4⟩
  obtain ⟨a4, c4, rfl⟩ := hown4.shape
  have K4 := Lib.hid k4
  clear hown4 hok4 k4
  go_wp2_with fail
  go_ret
  exact ⟨rfl, K4.out⟩

set_option maxHeartbeats 1600000 in
set_option maxRecDepth 100000 in
theorem others_a_204 (x : Int) (hx0 : 204 ≤ x) (hx1 : x ≤ 211) (w : World) :
    Calls Try.prog 6 #[.int .u8 x, .bool false] w fun r w' => r = .returned (.bool true) ∧ Keeps [] w w' := by
  have fge160 :  160 ≤ x := by omega
  have fle191 : ¬ x ≤ 191 := by omega
  have fd191 : decide (x ≤ 191) = false := decide_eq_false (by omega)
  have fge217 : ¬ 217 ≤ x := by omega
  have fle219 :  x ≤ 219 := by omega
  have fd219 : decide (x ≤ 219) = true := decide_eq_true (by omega)
  have fge199 :  199 ≤ x := by omega
  have fle201 : ¬ x ≤ 201 := by omega
  have fd201 : decide (x ≤ 201) = false := decide_eq_false (by omega)
  have fge212 : ¬ 212 ≤ x := by omega
  have fle216 :  x ≤ 216 := by omega
  have fd216 : decide (x ≤ 216) = true := decide_eq_true (by omega)
  have fe193 : (x == 193) = false := by simp; omega
  have fe202 : (x == 202) = false := by simp; omega
  have fe203 : (x == 203) = false := by simp; omega
  have HE := Lib.hid (show (pkArr.step x).2.c.e = 0 by
    rw [others_plain rfl rfl rfl rfl rfl rfl]
    show othersErr false x = 0
    unfold othersErr isTextB; rw [if_neg (by omega), if_neg (by rintro (⟨h, _⟩ | h) <;> first | (cases h; done) | omega), if_neg (by omega)])
  go_enter Try.func6, Try.ntmps6
  go_wp2_with fail
  refine (palive_any w).mono ?_
  rintro e w1 ⟨rfl, k1⟩
  have K1 := Lib.hid k1
  have z1 := k1.size
  clear k1
  go_wp2_with fail
  refine (pnew_yes 4 (by omega) w1).mono ?_
  rintro e w2 ⟨rfl, hin2, k2⟩
  have HIN2 := Lib.hid hin2
  have K2 := Lib.hid (K1.out.trans k2)
  have z2 := k2.size
  clear hin2 k2
  go_wp2_with fail
  have hst := pstepped (N := 0) (w0 := w) ⟨HIN2.out, Pk.fit_new (by omega), by omega, z2⟩ 145 (by omega) (by omega) z1 K2.out (by omega)
  rw [step_arr1] at hst
  refine hst.mono ?_
  clear hst
  rintro e w3 ⟨v3, ov3, sv3, rfl, hown3, hok3, k3, z3⟩
  have HOK3 := Lib.hid (show PkOk _ _ _ _ _ _ pkArr from hok3)
  have K3 := Lib.hid k3
  clear hown3 hok3 k3
  simp only [pkArr]
  go_wp2_with fail
  have hst := pstepped HOK3.out x (by omega) (by omega) z1 K3.out (by omega)
  rw [HE.out] at hst
  refine hst.mono ?_
  clear hst
  rintro e w4 ⟨v4, ov4, sv4, rfl, hown4, hok4, k4, z4⟩
  obtain ⟨a4, c4, rfl⟩ := hown4.shape
  have K4 := Lib.hid k4
  clear hown4 hok4 k4
  go_wp2_with fail
  go_ret
  exact ⟨rfl, K4.out⟩

set_option maxHeartbeats 1600000 in
set_option maxRecDepth 100000 in
theorem others_a_212 (x : Int) (hx0 : 212 ≤ x) (hx1 : x ≤ 216) (w : World) :
    Calls Try.prog 6 #[.int .u8 x, .bool false] w fun r w' => r = .returned (.bool true) ∧ Keeps [] w w' := by
  have fge160 :  160 ≤ x := by omega
  have fle191 : ¬ x ≤ 191 := by omega
  have fd191 : decide (x ≤ 191) = false := decide_eq_false (by omega)
  have fge217 : ¬ 217 ≤ x := by omega
  have fle219 :  x ≤ 219 := by omega
  have fd219 : decide (x ≤ 219) = true := decide_eq_true (by omega)
  have fge199 :  199 ≤ x := by omega
  have fle201 : ¬ x ≤ 201 := by omega
  have fd201 : decide (x ≤ 201) = false := decide_eq_false (by omega)
  have fge212 :  212 ≤ x := by omega
  have fle216 :  x ≤ 216 := by omega
  have fd216 : decide (x ≤ 216) = true := decide_eq_true (by omega)
  have fe193 : (x == 193) = false := by simp; omega
  have fe202 : (x == 202) = false := by simp; omega
  have fe203 : (x == 203) = false := by simp; omega
  have HE := Lib.hid (show (pkArr.step x).2.c.e = 8 by
    rw [others_plain rfl rfl rfl rfl rfl rfl]
    show othersErr false x = 8
    unfold othersErr isTextB; rw [if_neg (by omega), if_pos (by right; omega)])
  go_enter Try.func6, Try.ntmps6
  go_wp2_with fail
  refine (palive_any w).mono ?_
  rintro e w1 ⟨rfl, k1⟩
  have K1 := Lib.hid k1
  have z1 := k1.size
  clear k1
  go_wp2_with fail
  refine (pnew_yes 4 (by omega) w1).mono ?_
  rintro e w2 ⟨rfl, hin2, k2⟩
  have HIN2 := Lib.hid hin2
  have K2 := Lib.hid (K1.out.trans k2)
  have z2 := k2.size
  clear hin2 k2
  go_wp2_with fail
  have hst := pstepped (N := 0) (w0 := w) ⟨HIN2.out, Pk.fit_new (by omega), by omega, z2⟩ 145 (by omega) (by omega) z1 K2.out (by omega)
  rw [step_arr1] at hst
  refine hst.mono ?_
  clear hst
  rintro e w3 ⟨v3, ov3, sv3, rfl, hown3, hok3, k3, z3⟩
  have HOK3 := Lib.hid (show PkOk _ _ _ _ _ _ pkArr from hok3)
  have K3 := Lib.hid k3
  clear hown3 hok3 k3
  simp only [pkArr]
  go_wp2_with fail
  have hst := pstepped HOK3.out x (by omega) (by omega) z1 K3.out (by omega)
  rw [HE.out] at hst
  refine hst.mono ?_
  clear hst
  rintro e w4 ⟨v4, ov4, sv4, rfl, hown4, hok4, k4, z4⟩
  obtain ⟨a4, c4, rfl⟩ := hown4.shape
  have K4 := Lib.hid k4
  clear hown4 hok4 k4
  go_wp2_with fail
  go_ret
  exact ⟨rfl, K4.out⟩

set_option maxHeartbeats 1600000 in
set_option maxRecDepth 100000 in
theorem others_a_217 (x : Int) (hx0 : 217 ≤ x) (hx1 : x ≤ 219) (w : World) :
    Calls Try.prog 6 #[.int .u8 x, .bool false] w fun r w' => r = .returned (.bool true) ∧ Keeps [] w w' := by
  have fge160 :  160 ≤ x := by omega
  have fle191 : ¬ x ≤ 191 := by omega
  have fd191 : decide (x ≤ 191) = false := decide_eq_false (by omega)
  have fge217 :  217 ≤ x := by omega
  have fle219 :  x ≤ 219 := by omega
  have fd219 : decide (x ≤ 219) = true := decide_eq_true (by omega)
  have fge199 :  199 ≤ x := by omega
  have fle201 : ¬ x ≤ 201 := by omega
  have fd201 : decide (x ≤ 201) = false := decide_eq_false (by omega)
  have fge212 :  212 ≤ x := by omega
  have fle216 : ¬ x ≤ 216 := by omega
  have fd216 : decide (x ≤ 216) = false := decide_eq_false (by omega)
  have fe193 : (x == 193) = false := by simp; omega
  have fe202 : (x == 202) = false := by simp; omega
  have fe203 : (x == 203) = false := by simp; omega
  have HE := Lib.hid (show (pkArr.step x).2.c.e = 0 by
    rw [others_plain rfl rfl rfl rfl rfl rfl]
    show othersErr false x = 0
    unfold othersErr isTextB; rw [if_neg (by omega), if_neg (by rintro (⟨h, _⟩ | h) <;> first | (cases h; done) | omega), if_neg (by omega)])
  go_enter Try.func6, Try.ntmps6
  go_wp2_with fail
  refine (palive_any w).mono ?_
  rintro e w1 ⟨rfl, k1⟩
  have K1 := Lib.hid k1
  have z1 := k1.size
  clear k1
  go_wp2_with fail
  refine (pnew_yes 4 (by omega) w1).mono ?_
  rintro e w2 ⟨rfl, hin2, k2⟩
  have HIN2 := Lib.hid hin2
  have K2 := Lib.hid (K1.out.trans k2)
  have z2 := k2.size
  clear hin2 k2
  go_wp2_with fail
  have hst := pstepped (N := 0) (w0 := w) ⟨HIN2.out, Pk.fit_new (by omega), by omega, z2⟩ 145 (by omega) (by omega) z1 K2.out (by omega)
  rw [step_arr1] at hst
  refine hst.mono ?_
  clear hst
  rintro e w3 ⟨v3, ov3, sv3, rfl, hown3, hok3, k3, z3⟩
  have HOK3 := Lib.hid (show PkOk _ _ _ _ _ _ pkArr from hok3)
  have K3 := Lib.hid k3
  clear hown3 hok3 k3
  simp only [pkArr]
  go_wp2_with fail
  have hst := pstepped HOK3.out x (by omega) (by omega) z1 K3.out (by omega)
  rw [HE.out] at hst
  refine hst.mono ?_
  clear hst
  rintro e w4 ⟨v4, ov4, sv4, rfl, hown4, hok4, k4, z4⟩
  obtain ⟨a4, c4, rfl⟩ := hown4.shape
  have K4 := Lib.hid k4
  clear hown4 hok4 k4
  go_wp2_with fail
  go_ret
  exact ⟨rfl, K4.out⟩

set_option maxHeartbeats 1600000 in
set_option maxRecDepth 100000 in
theorem others_a_220 (x : Int) (hx0 : 220 ≤ x) (hx1 : x ≤ 255) (w : World) :
    Calls Try.prog 6 #[.int .u8 x, .bool false] w fun r w' => r = .returned (.bool true) ∧ Keeps [] w w' := by
  have fge160 :  160 ≤ x := by omega
  have fle191 : ¬ x ≤ 191 := by omega
  have fd191 : decide (x ≤ 191) = false := decide_eq_false (by omega)
  have fge217 :  217 ≤ x := by omega
  have fle219 : ¬ x ≤ 219 := by omega
  have fd219 : decide (x ≤ 219) = false := decide_eq_false (by omega)
  have fge199 :  199 ≤ x := by omega
  have fle201 : ¬ x ≤ 201 := by omega
  have fd201 : decide (x ≤ 201) = false := decide_eq_false (by omega)
  have fge212 :  212 ≤ x := by omega
  have fle216 : ¬ x ≤ 216 := by omega
  have fd216 : decide (x ≤ 216) = false := decide_eq_false (by omega)
  have fe193 : (x == 193) = false := by simp; omega
  have fe202 : (x == 202) = false := by simp; omega
  have fe203 : (x == 203) = false := by simp; omega
  have HE := Lib.hid (show (pkArr.step x).2.c.e = 0 by
    rw [others_plain rfl rfl rfl rfl rfl rfl]
    show othersErr false x = 0
    unfold othersErr isTextB; rw [if_neg (by omega), if_neg (by rintro (⟨h, _⟩ | h) <;> first | (cases h; done) | omega), if_neg (by omega)])
  go_enter Try.func6, Try.ntmps6
  go_wp2_with fail
  refine (palive_any w).mono ?_
  rintro e w1 ⟨rfl, k1⟩
  have K1 := Lib.hid k1
  have z1 := k1.size
  clear k1
  go_wp2_with fail
  refine (pnew_yes 4 (by omega) w1).mono ?_
  rintro e w2 ⟨rfl, hin2, k2⟩
  have HIN2 := Lib.hid hin2
  have K2 := Lib.hid (K1.out.trans k2)
  have z2 := k2.size
  clear hin2 k2
  go_wp2_with fail
  have hst := pstepped (N := 0) (w0 := w) ⟨HIN2.out, Pk.fit_new (by omega), by omega, z2⟩ 145 (by omega) (by omega) z1 K2.out (by omega)
  rw [step_arr1] at hst
  refine hst.mono ?_
  clear hst
  rintro e w3 ⟨v3, ov3, sv3, rfl, hown3, hok3, k3, z3⟩
  have HOK3 := Lib.hid (show PkOk _ _ _ _ _ _ pkArr from hok3)
  have K3 := Lib.hid k3
  clear hown3 hok3 k3
  simp only [pkArr]
  go_wp2_with fail
  have hst := pstepped HOK3.out x (by omega) (by omega) z1 K3.out (by omega)
  rw [HE.out] at hst
  refine hst.mono ?_
  clear hst
  rintro e w4 ⟨v4, ov4, sv4, rfl, hown4, hok4, k4, z4⟩
  obtain ⟨a4, c4, rfl⟩ := hown4.shape
  have K4 := Lib.hid k4
  clear hown4 hok4 k4
  go_wp2_with fail
  go_ret
  exact ⟨rfl, K4.out⟩

set_option maxHeartbeats 1600000 in
set_option maxRecDepth 100000 in
theorem others_k_0 (x : Int) (hx0 : 0 ≤ x) (hx1 : x ≤ 159) (w : World) :
    Calls Try.prog 6 #[.int .u8 x, .bool true] w fun r w' => r = .returned (.bool true) ∧ Keeps [] w w' := by
  have fge160 : ¬ 160 ≤ x := by omega
  have fle191 :  x ≤ 191 := by omega
  have fd191 : decide (x ≤ 191) = true := decide_eq_true (by omega)
  have fge217 : ¬ 217 ≤ x := by omega
  have fle219 :  x ≤ 219 := by omega
  have fd219 : decide (x ≤ 219) = true := decide_eq_true (by omega)
  have fge199 : ¬ 199 ≤ x := by omega
  have fle201 :  x ≤ 201 := by omega
  have fd201 : decide (x ≤ 201) = true := decide_eq_true (by omega)
  have fge212 : ¬ 212 ≤ x := by omega
  have fle216 :  x ≤ 216 := by omega
  have fd216 : decide (x ≤ 216) = true := decide_eq_true (by omega)
  have fe193 : (x == 193) = false := by simp; omega
  have fe202 : (x == 202) = false := by simp; omega
  have fe203 : (x == 203) = false := by simp; omega
  have HE := Lib.hid (show (pkMap.step x).2.c.e = 8 by
    rw [others_plain rfl rfl rfl rfl rfl rfl]
    show othersErr true x = 8
    unfold othersErr isTextB; rw [if_neg (by omega), if_pos (by left; exact ⟨rfl, decide_eq_false (by omega)⟩)])
  go_enter Try.func6, Try.ntmps6
  go_wp2_with fail
  refine (palive_any w).mono ?_
  rintro e w1 ⟨rfl, k1⟩
  have K1 := Lib.hid k1
  have z1 := k1.size
  clear k1
  go_wp2_with fail
  refine (pnew_yes 4 (by omega) w1).mono ?_
  rintro e w2 ⟨rfl, hin2, k2⟩
  have HIN2 := Lib.hid hin2
  have K2 := Lib.hid (K1.out.trans k2)
  have z2 := k2.size
  clear hin2 k2
  go_wp2_with fail
  have hst := pstepped (N := 0) (w0 := w) ⟨HIN2.out, Pk.fit_new (by omega), by omega, z2⟩ 129 (by omega) (by omega) z1 K2.out (by omega)
  rw [step_map1] at hst
  refine hst.mono ?_
  clear hst
  rintro e w3 ⟨v3, ov3, sv3, rfl, hown3, hok3, k3, z3⟩
  have HOK3 := Lib.hid (show PkOk _ _ _ _ _ _ pkMap from hok3)
  have K3 := Lib.hid k3
  clear hown3 hok3 k3
  simp only [pkMap]
  go_wp2_with fail
  have hst := pstepped HOK3.out x (by omega) (by omega) z1 K3.out (by omega)
  rw [HE.out] at hst
  refine hst.mono ?_
  clear hst
  rintro e w4 ⟨v4, ov4, sv4, rfl, hown4, hok4, k4, z4⟩
  obtain ⟨a4, c4, rfl⟩ := hown4.shape
  have K4 := Lib.hid k4
  clear hown4 hok4 k4
  go_wp2_with fail
  go_ret
  exact ⟨rfl, K4.out⟩

set_option maxHeartbeats 1600000 in
set_option maxRecDepth 100000 in
theorem others_k_160 (x : Int) (hx0 : 160 ≤ x) (hx1 : x ≤ 191) (w : World) :
    Calls Try.prog 6 #[.int .u8 x, .bool true] w fun r w' => r = .returned (.bool true) ∧ Keeps [] w w' := by
  have fge160 :  160 ≤ x := by omega
  have fle191 :  x ≤ 191 := by omega
  have fd191 : decide (x ≤ 191) = true := decide_eq_true (by omega)
  have fge217 : ¬ 217 ≤ x := by omega
  have fle219 :  x ≤ 219 := by omega
  have fd219 : decide (x ≤ 219) = true := decide_eq_true (by omega)
  have fge199 : ¬ 199 ≤ x := by omega
  have fle201 :  x ≤ 201 := by omega
  have fd201 : decide (x ≤ 201) = true := decide_eq_true (by omega)
  have fge212 : ¬ 212 ≤ x := by omega
  have fle216 :  x ≤ 216 := by omega
  have fd216 : decide (x ≤ 216) = true := decide_eq_true (by omega)
  have fe193 : (x == 193) = false := by simp; omega
  have fe202 : (x == 202) = false := by simp; omega
  have fe203 : (x == 203) = false := by simp; omega
  have HE := Lib.hid (show (pkMap.step x).2.c.e = 0 by
    rw [others_plain rfl rfl rfl rfl rfl rfl]
    show othersErr true x = 0
    unfold othersErr isTextB; rw [if_neg (by omega), if_neg (by rintro (⟨h, h2⟩ | h) <;> first | (simp only [decide_eq_false_iff_not] at h2; omega) | omega), if_neg (by omega)])
  go_enter Try.func6, Try.ntmps6
  go_wp2_with fail
  refine (palive_any w).mono ?_
  rintro e w1 ⟨rfl, k1⟩
  have K1 := Lib.hid k1
  have z1 := k1.size
  clear k1
  go_wp2_with fail
  refine (pnew_yes 4 (by omega) w1).mono ?_
  rintro e w2 ⟨rfl, hin2, k2⟩
  have HIN2 := Lib.hid hin2
  have K2 := Lib.hid (K1.out.trans k2)
  have z2 := k2.size
  clear hin2 k2
  go_wp2_with fail
  have hst := pstepped (N := 0) (w0 := w) ⟨HIN2.out, Pk.fit_new (by omega), by omega, z2⟩ 129 (by omega) (by omega) z1 K2.out (by omega)
  rw [step_map1] at hst
  refine hst.mono ?_
  clear hst
  rintro e w3 ⟨v3, ov3, sv3, rfl, hown3, hok3, k3, z3⟩
  have HOK3 := Lib.hid (show PkOk _ _ _ _ _ _ pkMap from hok3)
  have K3 := Lib.hid k3
  clear hown3 hok3 k3
  simp only [pkMap]
  go_wp2_with fail
  have hst := pstepped HOK3.out x (by omega) (by omega) z1 K3.out (by omega)
  rw [HE.out] at hst
  refine hst.mono ?_
  clear hst
  rintro e w4 ⟨v4, ov4, sv4, rfl, hown4, hok4, k4, z4⟩
  obtain ⟨a4, c4, rfl⟩ := hown4.shape
  have K4 := Lib.hid k4
  clear hown4 hok4 k4
  go_wp2_with fail
  go_ret
  exact ⟨rfl, K4.out⟩

set_option maxHeartbeats 1600000 in
set_option maxRecDepth 100000 in
theorem others_k_192 (x : Int) (hx : x = 192) (w : World) :
    Calls Try.prog 6 #[.int .u8 x, .bool true] w fun r w' => r = .returned (.bool true) ∧ Keeps [] w w' := by
  subst hx
  have HE := Lib.hid (show (pkMap.step (192 : Int)).2.c.e = 8 by
    rw [others_plain rfl rfl rfl rfl rfl rfl]
    show othersErr true (192 : Int) = 8
    decide)
  go_enter Try.func6, Try.ntmps6
  go_wp2_with fail
  refine (palive_any w).mono ?_
  rintro e w1 ⟨rfl, k1⟩
  have K1 := Lib.hid k1
  have z1 := k1.size
  clear k1
  go_wp2_with fail
  refine (pnew_yes 4 (by omega) w1).mono ?_
  rintro e w2 ⟨rfl, hin2, k2⟩
  have HIN2 := Lib.hid hin2
  have K2 := Lib.hid (K1.out.trans k2)
  have z2 := k2.size
  clear hin2 k2
  go_wp2_with fail
  have hst := pstepped (N := 0) (w0 := w) ⟨HIN2.out, Pk.fit_new (by omega), by omega, z2⟩ 129 (by omega) (by omega) z1 K2.out (by omega)
  rw [step_map1] at hst
  refine hst.mono ?_
  clear hst
  rintro e w3 ⟨v3, ov3, sv3, rfl, hown3, hok3, k3, z3⟩
  have HOK3 := Lib.hid (show PkOk _ _ _ _ _ _ pkMap from hok3)
  have K3 := Lib.hid k3
  clear hown3 hok3 k3
  simp only [pkMap]
  go_wp2_with fail
  have hst := pstepped HOK3.out (192 : Int) (by omega) (by omega) z1 K3.out (by omega)
  rw [HE.out] at hst
  refine hst.mono ?_
  clear hst
  rintro e w4 ⟨v4, ov4, sv4, rfl, hown4, hok4, k4, z4⟩
  obtain ⟨a4, c4, rfl⟩ := hown4.shape
  have K4 := Lib.hid k4
  clear hown4 hok4 k4
  go_wp2_with fail
  go_ret
  exact ⟨rfl, K4.out⟩

set_option maxHeartbeats 1600000 in
set_option maxRecDepth 100000 in
theorem others_k_193 (x : Int) (hx : x = 193) (w : World) :
    Calls Try.prog 6 #[.int .u8 x, .bool true] w fun r w' => r = .returned (.bool true) ∧ Keeps [] w w' := by
  subst hx
  have HE := Lib.hid (show (pkMap.step (193 : Int)).2.c.e = 2 by
    rw [others_plain rfl rfl rfl rfl rfl rfl]
    show othersErr true (193 : Int) = 2
    decide)
  go_enter Try.func6, Try.ntmps6
  go_wp2_with fail
  refine (palive_any w).mono ?_
  rintro e w1 ⟨rfl, k1⟩
  have K1 := Lib.hid k1
  have z1 := k1.size
  clear k1
  go_wp2_with fail
  refine (pnew_yes 4 (by omega) w1).mono ?_
  rintro e w2 ⟨rfl, hin2, k2⟩
  have HIN2 := Lib.hid hin2
  have K2 := Lib.hid (K1.out.trans k2)
  have z2 := k2.size
  clear hin2 k2
  go_wp2_with fail
  have hst := pstepped (N := 0) (w0 := w) ⟨HIN2.out, Pk.fit_new (by omega), by omega, z2⟩ 129 (by omega) (by omega) z1 K2.out (by omega)
  rw [step_map1] at hst
  refine hst.mono ?_
  clear hst
  rintro e w3 ⟨v3, ov3, sv3, rfl, hown3, hok3, k3, z3⟩
  have HOK3 := Lib.hid (show PkOk _ _ _ _ _ _ pkMap from hok3)
  have K3 := Lib.hid k3
  clear hown3 hok3 k3
  simp only [pkMap]
  go_wp2_with fail
  have hst := pstepped HOK3.out (193 : Int) (by omega) (by omega) z1 K3.out (by omega)
  rw [HE.out] at hst
  refine hst.mono ?_
  clear hst
  rintro e w4 ⟨v4, ov4, sv4, rfl, hown4, hok4, k4, z4⟩
  obtain ⟨a4, c4, rfl⟩ := hown4.shape
  have K4 := Lib.hid k4
  clear hown4 hok4 k4
  go_wp2_with fail
  go_ret
  exact ⟨rfl, K4.out⟩

set_option maxHeartbeats 1600000 in
set_option maxRecDepth 100000 in
theorem others_k_194 (x : Int) (hx0 : 194 ≤ x) (hx1 : x ≤ 198) (w : World) :
    Calls Try.prog 6 #[.int .u8 x, .bool true] w fun r w' => r = .returned (.bool true) ∧ Keeps [] w w' := by
  have fge160 :  160 ≤ x := by omega
  have fle191 : ¬ x ≤ 191 := by omega
  have fd191 : decide (x ≤ 191) = false := decide_eq_false (by omega)
  have fge217 : ¬ 217 ≤ x := by omega
  have fle219 :  x ≤ 219 := by omega
  have fd219 : decide (x ≤ 219) = true := decide_eq_true (by omega)
  have fge199 : ¬ 199 ≤ x := by omega
  have fle201 :  x ≤ 201 := by omega
  have fd201 : decide (x ≤ 201) = true := decide_eq_true (by omega)
  have fge212 : ¬ 212 ≤ x := by omega
  have fle216 :  x ≤ 216 := by omega
  have fd216 : decide (x ≤ 216) = true := decide_eq_true (by omega)
  have fe193 : (x == 193) = false := by simp; omega
  have fe202 : (x == 202) = false := by simp; omega
  have fe203 : (x == 203) = false := by simp; omega
  have HE := Lib.hid (show (pkMap.step x).2.c.e = 8 by
    rw [others_plain rfl rfl rfl rfl rfl rfl]
    show othersErr true x = 8
    unfold othersErr isTextB; rw [if_neg (by omega), if_pos (by left; exact ⟨rfl, decide_eq_false (by omega)⟩)])
  go_enter Try.func6, Try.ntmps6
  go_wp2_with fail
  refine (palive_any w).mono ?_
  rintro e w1 ⟨rfl, k1⟩
  have K1 := Lib.hid k1
  have z1 := k1.size
  clear k1
  go_wp2_with fail
  refine (pnew_yes 4 (by omega) w1).mono ?_
  rintro e w2 ⟨rfl, hin2, k2⟩
  have HIN2 := Lib.hid hin2
  have K2 := Lib.hid (K1.out.trans k2)
  have z2 := k2.size
  clear hin2 k2
  go_wp2_with fail
  have hst := pstepped (N := 0) (w0 := w) ⟨HIN2.out, Pk.fit_new (by omega), by omega, z2⟩ 129 (by omega) (by omega) z1 K2.out (by omega)
  rw [step_map1] at hst
  refine hst.mono ?_
  clear hst
  rintro e w3 ⟨v3, ov3, sv3, rfl, hown3, hok3, k3, z3⟩
  have HOK3 := Lib.hid (show PkOk _ _ _ _ _ _ pkMap from hok3)
  have K3 := Lib.hid k3
  clear hown3 hok3 k3
  simp only [pkMap]
  go_wp2_with fail
  have hst := pstepped HOK3.out x (by omega) (by omega) z1 K3.out (by omega)
  rw [HE.out] at hst
  refine hst.mono ?_
  clear hst
  rintro e w4 ⟨v4, ov4, sv4, rfl, hown4, hok4, k4, z4⟩
  obtain ⟨a4, c4, rfl⟩ := hown4.shape
  have K4 := Lib.hid k4
  clear hown4 hok4 k4
  go_wp2_with fail
  go_ret
  exact ⟨rfl, K4.out⟩

set_option maxHeartbeats 1600000 in
set_option maxRecDepth 100000 in
theorem others_k_199 (x : Int) (hx0 : 199 ≤ x) (hx1 : x ≤ 201) (w : World) :
    Calls Try.prog 6 #[.int .u8 x, .bool true] w fun r w' => r = .returned (.bool true) ∧ Keeps [] w w' := by
  have fge160 :  160 ≤ x := by omega
  have fle191 : ¬ x ≤ 191 := by omega
  have fd191 : decide (x ≤ 191) = false := decide_eq_false (by omega)
  have fge217 : ¬ 217 ≤ x := by omega
  have fle219 :  x ≤ 219 := by omega
  have fd219 : decide (x ≤ 219) = true := decide_eq_true (by omega)
  have fge199 :  199 ≤ x := by omega
  have fle201 :  x ≤ 201 := by omega
  have fd201 : decide (x ≤ 201) = true := decide_eq_true (by omega)
  have fge212 : ¬ 212 ≤ x := by omega
  have fle216 :  x ≤ 216 := by omega
  have fd216 : decide (x ≤ 216) = true := decide_eq_true (by omega)
  have fe193 : (x == 193) = false := by simp; omega
  have fe202 : (x == 202) = false := by simp; omega
  have fe203 : (x == 203) = false := by simp; omega
  have HE := Lib.hid (show (pkMap.step x).2.c.e = 8 by
    rw [others_plain rfl rfl rfl rfl rfl rfl]
    show othersErr true x = 8
    unfold othersErr isTextB; rw [if_neg (by omega), if_pos (by right; omega)])
  go_enter Try.func6, Try.ntmps6
  go_wp2_with fail
  refine (palive_any w).mono ?_
  rintro e w1 ⟨rfl, k1⟩
  have K1 := Lib.hid k1
  have z1 := k1.size
  clear k1
  go_wp2_with fail
  refine (pnew_yes 4 (by omega) w1).mono ?_
  rintro e w2 ⟨rfl, hin2, k2⟩
  have HIN2 := Lib.hid hin2
  have K2 := Lib.hid (K1.out.trans k2)
  have z2 := k2.size
  clear hin2 k2
  go_wp2_with fail
  have hst := pstepped (N := 0) (w0 := w) ⟨HIN2.out, Pk.fit_new (by omega), by omega, z2⟩ 129 (by omega) (by omega) z1 K2.out (by omega)
  rw [step_map1] at hst
  refine hst.mono ?_
  clear hst
  rintro e w3 ⟨v3, ov3, sv3, rfl, hown3, hok3, k3, z3⟩
  have HOK3 := Lib.hid (show PkOk _ _ _ _ _ _ pkMap from hok3)
  have K3 := Lib.hid k3
  clear hown3 hok3 k3
  simp only [pkMap]
  go_wp2_with fail
  have hst := pstepped HOK3.out x (by omega) (by omega) z1 K3.out (by omega)
  rw [HE.out] at hst
  refine hst.mono ?_
  clear hst
  rintro e w4 ⟨v4, ov4, sv4, rfl, hown4, hok4, k4, z4⟩
  obtain ⟨a4, c4, rfl⟩ := hown4.shape
  have K4 := Lib.hid k4
  clear hown4 hok4 k4
  go_wp2_with fail
  go_ret
  exact ⟨rfl, K4.out⟩

set_option maxHeartbeats 1600000 in
set_option maxRecDepth 100000 in
theorem others_k_202 (x : Int) (hx : x = 202) (w : World) :
    Calls Try.prog 6 #[.int .u8 x, .bool true] w fun r w' => r = .returned (.bool true) ∧ Keeps [] w w' := by
  subst hx
  have HE := Lib.hid (show (pkMap.step (202 : Int)).2.c.e = 8 by
    rw [others_plain rfl rfl rfl rfl rfl rfl]
    show othersErr true (202 : Int) = 8
    decide)
  go_enter Try.func6, Try.ntmps6
  go_wp2_with fail
  refine (palive_any w).mono ?_
  rintro e w1 ⟨rfl, k1⟩
  have K1 := Lib.hid k1
  have z1 := k1.size
  clear k1
  go_wp2_with fail
  refine (pnew_yes 4 (by omega) w1).mono ?_
  rintro e w2 ⟨rfl, hin2, k2⟩
  have HIN2 := Lib.hid hin2
  have K2 := Lib.hid (K1.out.trans k2)
  have z2 := k2.size
  clear hin2 k2
  go_wp2_with fail
  have hst := pstepped (N := 0) (w0 := w) ⟨HIN2.out, Pk.fit_new (by omega), by omega, z2⟩ 129 (by omega) (by omega) z1 K2.out (by omega)
  rw [step_map1] at hst
  refine hst.mono ?_
  clear hst
  rintro e w3 ⟨v3, ov3, sv3, rfl, hown3, hok3, k3, z3⟩
  have HOK3 := Lib.hid (show PkOk _ _ _ _ _ _ pkMap from hok3)
  have K3 := Lib.hid k3
  clear hown3 hok3 k3
  simp only [pkMap]
  go_wp2_with fail
  have hst := pstepped HOK3.out (202 : Int) (by omega) (by omega) z1 K3.out (by omega)
  rw [HE.out] at hst
  refine hst.mono ?_
  clear hst
  rintro e w4 ⟨v4, ov4, sv4, rfl, hown4, hok4, k4, z4⟩
  obtain ⟨a4, c4, rfl⟩ := hown4.shape
  have K4 := Lib.hid k4
  clear hown4 hok4 k4
  go_wp2_with fail
  go_ret
  exact ⟨rfl, K4.out⟩

set_option maxHeartbeats 1600000 in
set_option maxRecDepth 100000 in
theorem others_k_203 (x : Int) (hx : x = 203) (w : World) :
    Calls Try.prog 6 #[.int .u8 x, .bool true] w fun r w' => r = .returned (.bool true) ∧ Keeps [] w w' := by
  subst hx
  have HE := Lib.hid (show (pkMap.step (203 : Int)).2.c.e = 8 by
    rw [others_plain rfl rfl rfl rfl rfl rfl]
    show othersErr true (203 : Int) = 8
    decide)
  go_enter Try.func6, Try.ntmps6
  go_wp2_with fail
  refine (palive_any w).mono ?_
  rintro e w1 ⟨rfl, k1⟩
  have K1 := Lib.hid k1
  have z1 := k1.size
  clear k1
  go_wp2_with fail
  refine (pnew_yes 4 (by omega) w1).mono ?_
  rintro e w2 ⟨rfl, hin2, k2⟩
  have HIN2 := Lib.hid hin2
  have K2 := Lib.hid (K1.out.trans k2)
  have z2 := k2.size
  clear hin2 k2
  go_wp2_with fail
  have hst := pstepped (N := 0) (w0 := w) ⟨HIN2.out, Pk.fit_new (by omega), by omega, z2⟩ 129 (by omega) (by omega) z1 K2.out (by omega)
  rw [step_map1] at hst
  refine hst.mono ?_
  clear hst
  rintro e w3 ⟨v3, ov3, sv3, rfl, hown3, hok3, k3, z3⟩
  have HOK3 := Lib.hid (show PkOk _ _ _ _ _ _ pkMap from hok3)
  have K3 := Lib.hid k3
  clear hown3 hok3 k3
  simp only [pkMap]
  go_wp2_with fail
  have hst := pstepped HOK3.out (203 : Int) (by omega) (by omega) z1 K3.out (by omega)
  rw [HE.out] at hst
  refine hst.mono ?_
  clear hst
  rintro e w4 ⟨v4, ov4, sv4, rfl, hown4, hok4, k4, z4⟩
  obtain ⟨a4, c4, rfl⟩ := hown4.shape
  have K4 := Lib.hid k4
  clear hown4 hok4 k4
  go_wp2_with fail
  go_ret
  exact ⟨rfl, K4.out⟩

set_option maxHeartbeats 1600000 in
set_option maxRecDepth 100000 in
theorem others_k_204 (x : Int) (hx0 : 204 ≤ x) (hx1 : x ≤ 211) (w : World) :
    Calls Try.prog 6 #[.int .u8 x, .bool true] w fun r w' => r = .returned (.bool true) ∧ Keeps [] w w' := by
  have fge160 :  160 ≤ x := by omega
  have fle191 : ¬ x ≤ 191 := by omega
  have fd191 : decide (x ≤ 191) = false := decide_eq_false (by omega)
  have fge217 : ¬ 217 ≤ x := by omega
  have fle219 :  x ≤ 219 := by omega
  have fd219 : decide (x ≤ 219) = true := decide_eq_true (by omega)
  have fge199 :  199 ≤ x := by omega
  have fle201 : ¬ x ≤ 201 := by omega
  have fd201 : decide (x ≤ 201) = false := decide_eq_false (by omega)
  have fge212 : ¬ 212 ≤ x := by omega
  have fle216 :  x ≤ 216 := by omega
  have fd216 : decide (x ≤ 216) = true := decide_eq_true (by omega)
  have fe193 : (x == 193) = false := by simp; omega
  have fe202 : (x == 202) = false := by simp; omega
  have fe203 : (x == 203) = false := by simp; omega
  have HE := Lib.hid (show (pkMap.step x).2.c.e = 8 by
    rw [others_plain rfl rfl rfl rfl rfl rfl]
    show othersErr true x = 8
    unfold othersErr isTextB; rw [if_neg (by omega), if_pos (by left; exact ⟨rfl, decide_eq_false (by omega)⟩)])
  go_enter Try.func6, Try.ntmps6
  go_wp2_with fail
  refine (palive_any w).mono ?_
  rintro e w1 ⟨rfl, k1⟩
  have K1 := Lib.hid k1
  have z1 := k1.size
  clear k1
  go_wp2_with fail
  refine (pnew_yes 4 (by omega) w1).mono ?_
  rintro e w2 ⟨rfl, hin2, k2⟩
  have HIN2 := Lib.hid hin2
  have K2 := Lib.hid (K1.out.trans k2)
  have z2 := k2.size
  clear hin2 k2
  go_wp2_with fail
  have hst := pstepped (N := 0) (w0 := w) ⟨HIN2.out, Pk.fit_new (by omega), by omega, z2⟩ 129 (by omega) (by omega) z1 K2.out (by omega)
  rw [step_map1] at hst
  refine hst.mono ?_
  clear hst
  rintro e w3 ⟨v3, ov3, sv3, rfl, hown3, hok3, k3, z3⟩
  have HOK3 := Lib.hid (show PkOk _ _ _ _ _ _ pkMap from hok3)
  have K3 := Lib.hid k3
  clear hown3 hok3 k3
  simp only [pkMap]
  go_wp2_with fail
  have hst := pstepped HOK3.out x (by omega) (by omega) z1 K3.out (by omega)
  rw [HE.out] at hst
  refine hst.mono ?_
  clear hst
  rintro e w4 ⟨v4, ov4, sv4, rfl, hown4, hok4, k4, z4⟩
  obtain ⟨a4, c4, rfl⟩ := hown4.shape
  have K4 := Lib.hid k4
  clear hown4 hok4 k4
  go_wp2_with fail
  go_ret
  exact ⟨rfl, K4.out⟩

set_option maxHeartbeats 1600000 in
set_option maxRecDepth 100000 in
theorem others_k_212 (x : Int) (hx0 : 212 ≤ x) (hx1 : x ≤ 216) (w : World) :
    Calls Try.prog 6 #[.int .u8 x, .bool true] w fun r w' => r = .returned (.bool true) ∧ Keeps [] w w' := by
  have fge160 :  160 ≤ x := by omega
  have fle191 : ¬ x ≤ 191 := by omega
  have fd191 : decide (x ≤ 191) = false := decide_eq_false (by omega)
  have fge217 : ¬ 217 ≤ x := by omega
  have fle219 :  x ≤ 219 := by omega
  have fd219 : decide (x ≤ 219) = true := decide_eq_true (by omega)
  have fge199 :  199 ≤ x := by omega
  have fle201 : ¬ x ≤ 201 := by omega
  have fd201 : decide (x ≤ 201) = false := decide_eq_false (by omega)
  have fge212 :  212 ≤ x := by omega
  have fle216 :  x ≤ 216 := by omega
  have fd216 : decide (x ≤ 216) = true := decide_eq_true (by omega)
  have fe193 : (x == 193) = false := by simp; omega
  have fe202 : (x == 202) = false := by simp; omega
  have fe203 : (x == 203) = false := by simp; omega
  have HE := Lib.hid (show (pkMap.step x).2.c.e = 8 by
    rw [others_plain rfl rfl rfl rfl rfl rfl]
    show othersErr true x = 8
    unfold othersErr isTextB; rw [if_neg (by omega), if_pos (by right; omega)])
  go_enter Try.func6, Try.ntmps6
  go_wp2_with fail
  refine (palive_any w).mono ?_
  rintro e w1 ⟨rfl, k1⟩
  have K1 := Lib.hid k1
  have z1 := k1.size
  clear k1
  go_wp2_with fail
  refine (pnew_yes 4 (by omega) w1).mono ?_
  rintro e w2 ⟨rfl, hin2, k2⟩
  have HIN2 := Lib.hid hin2
  have K2 := Lib.hid (K1.out.trans k2)
  have z2 := k2.size
  clear hin2 k2
  go_wp2_with fail
  have hst := pstepped (N := 0) (w0 := w) ⟨HIN2.out, Pk.fit_new (by omega), by omega, z2⟩ 129 (by omega) (by omega) z1 K2.out (by omega)
  rw [step_map1] at hst
  refine hst.mono ?_
  clear hst
  rintro e w3 ⟨v3, ov3, sv3, rfl, hown3, hok3, k3, z3⟩
  have HOK3 := Lib.hid (show PkOk _ _ _ _ _ _ pkMap from hok3)
  have K3 := Lib.hid k3
  clear hown3 hok3 k3
  simp only [pkMap]
  go_wp2_with fail
  have hst := pstepped HOK3.out x (by omega) (by omega) z1 K3.out (by omega)
  rw [HE.out] at hst
  refine hst.mono ?_
  clear hst
  rintro e w4 ⟨v4, ov4, sv4, rfl, hown4, hok4, k4, z4⟩
  obtain ⟨a4, c4, rfl⟩ := hown4.shape
  have K4 := Lib.hid k4
  clear hown4 hok4 k4
  go_wp2_with fail
  go_ret
  exact ⟨rfl, K4.out⟩

set_option maxHeartbeats 1600000 in
set_option maxRecDepth 100000 in
theorem others_k_217 (x : Int) (hx0 : 217 ≤ x) (hx1 : x ≤ 219) (w : World) :
    Calls Try.prog 6 #[.int .u8 x, .bool true] w fun r w' => r = .returned (.bool true) ∧ Keeps [] w w' := by
  have fge160 :  160 ≤ x := by omega
  have fle191 : ¬ x ≤ 191 := by omega
  have fd191 : decide (x ≤ 191) = false := decide_eq_false (by omega)
  have fge217 :  217 ≤ x := by omega
  have fle219 :  x ≤ 219 := by omega
  have fd219 : decide (x ≤ 219) = true := decide_eq_true (by omega)
  have fge199 :  199 ≤ x := by omega
  have fle201 : ¬ x ≤ 201 := by omega
  have fd201 : decide (x ≤ 201) = false := decide_eq_false (by omega)
  have fge212 :  212 ≤ x := by omega
  have fle216 : ¬ x ≤ 216 := by omega
  have fd216 : decide (x ≤ 216) = false := decide_eq_false (by omega)
  have fe193 : (x == 193) = false := by simp; omega
  have fe202 : (x == 202) = false := by simp; omega
  have fe203 : (x == 203) = false := by simp; omega
  have HE := Lib.hid (show (pkMap.step x).2.c.e = 0 by
    rw [others_plain rfl rfl rfl rfl rfl rfl]
    show othersErr true x = 0
    unfold othersErr isTextB; rw [if_neg (by omega), if_neg (by rintro (⟨h, h2⟩ | h) <;> first | (simp only [decide_eq_false_iff_not] at h2; omega) | omega), if_neg (by omega)])
  go_enter Try.func6, Try.ntmps6
  go_wp2_with fail
  refine (palive_any w).mono ?_
  rintro e w1 ⟨rfl, k1⟩
  have K1 := Lib.hid k1
  have z1 := k1.size
  clear k1
  go_wp2_with fail
  refine (pnew_yes 4 (by omega) w1).mono ?_
  rintro e w2 ⟨rfl, hin2, k2⟩
  have HIN2 := Lib.hid hin2
  have K2 := Lib.hid (K1.out.trans k2)
  have z2 := k2.size
  clear hin2 k2
  go_wp2_with fail
  have hst := pstepped (N := 0) (w0 := w) ⟨HIN2.out, Pk.fit_new (by omega), by omega, z2⟩ 129 (by omega) (by omega) z1 K2.out (by omega)
  rw [step_map1] at hst
  refine hst.mono ?_
  clear hst
  rintro e w3 ⟨v3, ov3, sv3, rfl, hown3, hok3, k3, z3⟩
  have HOK3 := Lib.hid (show PkOk _ _ _ _ _ _ pkMap from hok3)
  have K3 := Lib.hid k3
  clear hown3 hok3 k3
  simp only [pkMap]
  go_wp2_with fail
  have hst := pstepped HOK3.out x (by omega) (by omega) z1 K3.out (by omega)
  rw [HE.out] at hst
  refine hst.mono ?_
  clear hst
  rintro e w4 ⟨v4, ov4, sv4, rfl, hown4, hok4, k4, z4⟩
  obtain ⟨a4, c4, rfl⟩ := hown4.shape
  have K4 := Lib.hid k4
  clear hown4 hok4 k4
  go_wp2_with fail
  go_ret
  exact ⟨rfl, K4.out⟩

set_option maxHeartbeats 1600000 in
set_option maxRecDepth 100000 in
theorem others_k_220 (x : Int) (hx0 : 220 ≤ x) (hx1 : x ≤ 255) (w : World) :
    Calls Try.prog 6 #[.int .u8 x, .bool true] w fun r w' => r = .returned (.bool true) ∧ Keeps [] w w' := by
  have fge160 :  160 ≤ x := by omega
  have fle191 : ¬ x ≤ 191 := by omega
  have fd191 : decide (x ≤ 191) = false := decide_eq_false (by omega)
  have fge217 :  217 ≤ x := by omega
  have fle219 : ¬ x ≤ 219 := by omega
  have fd219 : decide (x ≤ 219) = false := decide_eq_false (by omega)
  have fge199 :  199 ≤ x := by omega
  have fle201 : ¬ x ≤ 201 := by omega
  have fd201 : decide (x ≤ 201) = false := decide_eq_false (by omega)
  have fge212 :  212 ≤ x := by omega
  have fle216 : ¬ x ≤ 216 := by omega
  have fd216 : decide (x ≤ 216) = false := decide_eq_false (by omega)
  have fe193 : (x == 193) = false := by simp; omega
  have fe202 : (x == 202) = false := by simp; omega
  have fe203 : (x == 203) = false := by simp; omega
  have HE := Lib.hid (show (pkMap.step x).2.c.e = 8 by
    rw [others_plain rfl rfl rfl rfl rfl rfl]
    show othersErr true x = 8
    unfold othersErr isTextB; rw [if_neg (by omega), if_pos (by left; exact ⟨rfl, decide_eq_false (by omega)⟩)])
  go_enter Try.func6, Try.ntmps6
  go_wp2_with fail
  refine (palive_any w).mono ?_
  rintro e w1 ⟨rfl, k1⟩
  have K1 := Lib.hid k1
  have z1 := k1.size
  clear k1
  go_wp2_with fail
  refine (pnew_yes 4 (by omega) w1).mono ?_
  rintro e w2 ⟨rfl, hin2, k2⟩
  have HIN2 := Lib.hid hin2
  have K2 := Lib.hid (K1.out.trans k2)
  have z2 := k2.size
  clear hin2 k2
  go_wp2_with fail
  have hst := pstepped (N := 0) (w0 := w) ⟨HIN2.out, Pk.fit_new (by omega), by omega, z2⟩ 129 (by omega) (by omega) z1 K2.out (by omega)
  rw [step_map1] at hst
  refine hst.mono ?_
  clear hst
  rintro e w3 ⟨v3, ov3, sv3, rfl, hown3, hok3, k3, z3⟩
  have HOK3 := Lib.hid (show PkOk _ _ _ _ _ _ pkMap from hok3)
  have K3 := Lib.hid k3
  clear hown3 hok3 k3
  simp only [pkMap]
  go_wp2_with fail
  have hst := pstepped HOK3.out x (by omega) (by omega) z1 K3.out (by omega)
  rw [HE.out] at hst
  refine hst.mono ?_
  clear hst
  rintro e w4 ⟨v4, ov4, sv4, rfl, hown4, hok4, k4, z4⟩
  obtain ⟨a4, c4, rfl⟩ := hown4.shape
  have K4 := Lib.hid k4
  clear hown4 hok4 k4
  go_wp2_with fail
  go_ret
  exact ⟨rfl, K4.out⟩

theorem packinOthers_walk (x : Int) (key : Bool) (w : World) (hx : 0 ≤ x ∧ x ≤ 255) :
    Calls Try.prog 6 #[.int .u8 x, .bool key] w fun r w' => r = .returned (.bool true) ∧ Below w.heap.size w w' := by
  refine Calls.mono (R := fun r w' => r = .returned (.bool true) ∧ Keeps [] w w') ?_ (fun r w' h => ⟨h.1, h.2.all⟩)
  cases key with
  | false =>
    by_cases c0 : x ≤ 159
    · exact others_a_0 x (by omega) c0 w
    by_cases c160 : x ≤ 191
    · exact others_a_160 x (by omega) c160 w
    by_cases c192 : x = 192
    · exact others_a_192 x c192 w
    by_cases c193 : x = 193
    · exact others_a_193 x c193 w
    by_cases c194 : x ≤ 198
    · exact others_a_194 x (by omega) c194 w
    by_cases c199 : x ≤ 201
    · exact others_a_199 x (by omega) c199 w
    by_cases c202 : x = 202
    · exact others_a_202 x c202 w
    by_cases c203 : x = 203
    · exact others_a_203 x c203 w
    by_cases c204 : x ≤ 211
    · exact others_a_204 x (by omega) c204 w
    by_cases c212 : x ≤ 216
    · exact others_a_212 x (by omega) c212 w
    by_cases c217 : x ≤ 219
    · exact others_a_217 x (by omega) c217 w
    exact others_a_220 x (by omega) hx.2 w
  | true =>
    by_cases c0 : x ≤ 159
    · exact others_k_0 x (by omega) c0 w
    by_cases c160 : x ≤ 191
    · exact others_k_160 x (by omega) c160 w
    by_cases c192 : x = 192
    · exact others_k_192 x c192 w
    by_cases c193 : x = 193
    · exact others_k_193 x c193 w
    by_cases c194 : x ≤ 198
    · exact others_k_194 x (by omega) c194 w
    by_cases c199 : x ≤ 201
    · exact others_k_199 x (by omega) c199 w
    by_cases c202 : x = 202
    · exact others_k_202 x c202 w
    by_cases c203 : x = 203
    · exact others_k_203 x c203 w
    by_cases c204 : x ≤ 211
    · exact others_k_204 x (by omega) c204 w
    by_cases c212 : x ≤ 216
    · exact others_k_212 x (by omega) c212 w
    by_cases c217 : x ≤ 219
    · exact others_k_217 x (by omega) c217 w
    exact others_k_220 x (by omega) hx.2 w
end Go.Proofs.Ythiennlanokdjaa
