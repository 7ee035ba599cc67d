/-
  JsoninForms' walk.
-/
import Derived.Test.YtbeocehadnhmnaaJsAlive
import Derived.Test.YtbeocehadnhmnaaArith
namespace Go.Tru

def jsBad : Nat → List UInt8
  | 0 => [91, 44]
  | 1 => [91, 49, 44, 93]
  | 2 => [123, 49, 32]
  | 3 => [123, 34, 97, 34, 44]
  | 4 => [123, 34, 97, 34, 58, 125]
  | 5 => [123, 44]
  | 6 => [93]
  | 7 => [125]
  | 8 => [91, 125]
  | 9 => [123, 93]
  | 10 => [49, 32, 49, 32]
  | 11 => [91, 49, 32, 49, 44]
  | 12 => [58]
  | 13 => [123, 34, 97, 34, 58, 49, 44, 125]
  | 14 => [39]
  | 15 => [91, 49, 125]
  | 16 => [110, 117, 108, 76]
  | 17 => [43]
  | _ => [91, 48, 49]

def jsGood : Nat → List UInt8
  | 0 => [91, 93]
  | 1 => [123, 125]
  | 2 => [91, 91, 93, 44, 123, 125, 93]
  | 3 => [123, 34, 34, 58, 123, 34, 34, 58, 91, 93, 125, 125]
  | 4 => [32, 49, 32]
  | 5 => [34, 34]
  | 6 => [91, 110, 117, 108, 108, 44, 116, 114, 117, 101, 44, 102, 97, 108, 115, 101, 93]
  | 7 => [45, 48]
  | _ => [123, 34, 97, 34, 58, 49, 44, 34, 97, 34, 58, 50, 125]

/-- bytes taken, one by one -/
def Js.feed (p : Js) (l : List UInt8) : Js := l.foldl (fun p b => (p.step b.toNat).2) p

theorem feed_take {l : List UInt8} {k : Nat} (hk : k < l.length) (p : Js) : p.feed (l.take (k + 1)) = ((p.feed (l.take k)).step l[k].toNat).2 := by
  unfold Js.feed
  rw [List.take_succ_eq_append_getElem hk, List.foldl_append]
  rfl

theorem bad_told : ∀ j : Fin 19, ∀ i : Fin 8, i.1 < (jsBad j.1).length → ((Js.new 4).feed ((jsBad j.1).take (i.1 + 1))).e = if i.1 + 1 = (jsBad j.1).length then 2 else 0 := by decide +kernel
theorem good_told : ∀ j : Fin 9, (jsAll (jsGood j.1) 4).2 = 0 ∧ 0 < (jsAll (jsGood j.1) 4).1.length ∧ (jsAll (jsGood j.1) 4).1.length ≤ 100 := by decide +kernel
theorem jsBad_len : ∀ j : Fin 19, 1 ≤ (jsBad j.1).length ∧ (jsBad j.1).length ≤ 8 := by decide
theorem jsGood_len : ∀ j : Fin 9, (jsGood j.1).length ≤ 100 := by decide
end Go.Tru
namespace Go.Proofs.Ytbeocehadnhmnaa
open Go.RowKit Go.Tru

def FormRel (w0 : World) (B : Nat) (l : List UInt8) (i : Value) (wr : World) : Prop :=
  ∃ (k : Nat) (mv : Value) (F : List Nat), k ≤ l.length ∧ i = .int .i64 k ∧ JsIn wr B B mv ((Js.new 4).feed (l.take k)) F ∧ ((Js.new 4).feed (l.take k)).Fit ∧ Keeps [] w0 wr ∧ ∀ i ∈ F ++ blks mv, w0.heap.size ≤ i

set_option maxHeartbeats 4000000 in
set_option maxRecDepth 100000 in
theorem jsoninForms_walk (k : Int) (w : World) (hk : -9223372036854775808 ≤ k ∧ k ≤ 9223372036854775807) :
    Calls Try.prog 6 #[.int .i64 k] w fun e w' => e = .returned (.bool true) ∧ Below w.heap.size w w' := by
  refine Calls.mono (R := fun r w' => r = .returned (.bool true) ∧ Keeps [] w w') ?_ (fun r w' h => ⟨h.1, h.2.all⟩)
  obtain ⟨hk1, hk2⟩ := hk
  obtain ⟨m1, m2, j, hj, hj5⟩ := mod_facts k (z := 19) (by omega)
  have m1 : -19 < k.tmod 19 := m1
  have m2 : k.tmod 19 < 19 := m2
  have hj : k.tmod 19 % 19 = (j : Int) := hj
  obtain ⟨n1, n2, i, hi, hi5⟩ := mod_facts k (z := 9) (by omega)
  have n1 : -9 < k.tmod 9 := n1
  have n2 : k.tmod 9 < 9 := n2
  have hi : k.tmod 9 % 9 = (i : Int) := hi
  obtain ⟨hl1, hl8⟩ := jsBad_len ⟨j, hj5⟩
  have hg100 := jsGood_len ⟨i, hi5⟩
  obtain ⟨l, hl⟩ : ∃ l, jsBad j = l := ⟨_, rfl⟩
  obtain ⟨g, hg⟩ : ∃ g, jsGood i = g := ⟨_, rfl⟩
  have hbad := bad_told ⟨j, hj5⟩
  have hgood := good_told ⟨i, hi5⟩
  simp only [hl, hg] at hl1 hl8 hg100 hbad hgood
  obtain ⟨sv, hsv⟩ : ∃ sv : ByteArray, ⟨l.toArray⟩ = sv := ⟨_, rfl⟩
  obtain ⟨sg, hsg⟩ : ∃ sg : ByteArray, ⟨g.toArray⟩ = sg := ⟨_, rfl⟩
  have hsize : sv.size = l.length := by rw [← hsv]; rfl
  have hsgl : sg.data.toList = g := by rw [← hsg]
  have hsgz : sg.size = g.length := by rw [← hsg]; rfl
  have hcell : ∀ (W : World) (p : Nat), p = W.heap.size → (W.alloc (.cells #[.string ⟨#[91, 44]⟩, .string ⟨#[91, 49, 44, 93]⟩, .string ⟨#[123, 49, 32]⟩, .string ⟨#[123, 34, 97, 34, 44]⟩, .string ⟨#[123, 34, 97, 34, 58, 125]⟩, .string ⟨#[123, 44]⟩, .string ⟨#[93]⟩, .string ⟨#[125]⟩, .string ⟨#[91, 125]⟩, .string ⟨#[123, 93]⟩, .string ⟨#[49, 32, 49, 32]⟩, .string ⟨#[91, 49, 32, 49, 44]⟩, .string ⟨#[58]⟩, .string ⟨#[123, 34, 97, 34, 58, 49, 44, 125]⟩, .string ⟨#[39]⟩, .string ⟨#[91, 49, 125]⟩, .string ⟨#[110, 117, 108, 76]⟩, .string ⟨#[43]⟩, .string ⟨#[91, 48, 49]⟩] 9)).cell? ⟨p, j, none⟩ = some (.string sv) := by
    intro W p hp
    subst hp
    rw [World.cell?_alloc_at _ _ _ _ rfl, ← hsv, ← hl]
    have hall : j = 0 ∨ j = 1 ∨ j = 2 ∨ j = 3 ∨ j = 4 ∨ j = 5 ∨ j = 6 ∨ j = 7 ∨ j = 8 ∨ j = 9 ∨ j = 10 ∨ j = 11 ∨ j = 12 ∨ j = 13 ∨ j = 14 ∨ j = 15 ∨ j = 16 ∨ j = 17 ∨ j = 18 := by omega
    rcases hall with rfl | rfl | rfl | rfl | rfl | rfl | rfl | rfl | rfl | rfl | rfl | rfl | rfl | rfl | rfl | rfl | rfl | rfl | rfl <;> rfl
  have hcellg : ∀ (W : World) (p : Nat), p = W.heap.size → (W.alloc (.cells #[.string ⟨#[91, 93]⟩, .string ⟨#[123, 125]⟩, .string ⟨#[91, 91, 93, 44, 123, 125, 93]⟩, .string ⟨#[123, 34, 34, 58, 123, 34, 34, 58, 91, 93, 125, 125]⟩, .string ⟨#[32, 49, 32]⟩, .string ⟨#[34, 34]⟩, .string ⟨#[91, 110, 117, 108, 108, 44, 116, 114, 117, 101, 44, 102, 97, 108, 115, 101, 93]⟩, .string ⟨#[45, 48]⟩, .string ⟨#[123, 34, 97, 34, 58, 49, 44, 34, 97, 34, 58, 50, 125]⟩] 9)).cell? ⟨p, i, none⟩ = some (.string sg) := by
    intro W p hp
    subst hp
    rw [World.cell?_alloc_at _ _ _ _ rfl, ← hsg, ← hg]
    have hall : i = 0 ∨ i = 1 ∨ i = 2 ∨ i = 3 ∨ i = 4 ∨ i = 5 ∨ i = 6 ∨ i = 7 ∨ i = 8 := by omega
    rcases hall with rfl | rfl | rfl | rfl | rfl | rfl | rfl | rfl | rfl <;> rfl
  have hc1 := (((Keeps.refl [] _).alloc (.cells #[.string ⟨#[91, 93]⟩, .string ⟨#[123, 125]⟩, .string ⟨#[91, 91, 93, 44, 123, 125, 93]⟩, .string ⟨#[123, 34, 34, 58, 123, 34, 34, 58, 91, 93, 125, 125]⟩, .string ⟨#[32, 49, 32]⟩, .string ⟨#[34, 34]⟩, .string ⟨#[91, 110, 117, 108, 108, 44, 116, 114, 117, 101, 44, 102, 97, 108, 115, 101, 93]⟩, .string ⟨#[45, 48]⟩, .string ⟨#[123, 34, 97, 34, 58, 49, 44, 34, 97, 34, 58, 50, 125]⟩] 9))).cell (hcell w w.heap.size rfl) (by simp)
  have hc2 := hcellg (w.alloc (.cells #[.string ⟨#[91, 44]⟩, .string ⟨#[91, 49, 44, 93]⟩, .string ⟨#[123, 49, 32]⟩, .string ⟨#[123, 34, 97, 34, 44]⟩, .string ⟨#[123, 34, 97, 34, 58, 125]⟩, .string ⟨#[123, 44]⟩, .string ⟨#[93]⟩, .string ⟨#[125]⟩, .string ⟨#[91, 125]⟩, .string ⟨#[123, 93]⟩, .string ⟨#[49, 32, 49, 32]⟩, .string ⟨#[91, 49, 32, 49, 44]⟩, .string ⟨#[58]⟩, .string ⟨#[123, 34, 97, 34, 58, 49, 44, 125]⟩, .string ⟨#[39]⟩, .string ⟨#[91, 49, 125]⟩, .string ⟨#[110, 117, 108, 76]⟩, .string ⟨#[43]⟩, .string ⟨#[91, 48, 49]⟩] 9)) (w.heap.size + 1) (by simp)
  have hkw := ((Keeps.refl [] w).alloc (.cells #[.string ⟨#[91, 44]⟩, .string ⟨#[91, 49, 44, 93]⟩, .string ⟨#[123, 49, 32]⟩, .string ⟨#[123, 34, 97, 34, 44]⟩, .string ⟨#[123, 34, 97, 34, 58, 125]⟩, .string ⟨#[123, 44]⟩, .string ⟨#[93]⟩, .string ⟨#[125]⟩, .string ⟨#[91, 125]⟩, .string ⟨#[123, 93]⟩, .string ⟨#[49, 32, 49, 32]⟩, .string ⟨#[91, 49, 32, 49, 44]⟩, .string ⟨#[58]⟩, .string ⟨#[123, 34, 97, 34, 58, 49, 44, 125]⟩, .string ⟨#[39]⟩, .string ⟨#[91, 49, 125]⟩, .string ⟨#[110, 117, 108, 76]⟩, .string ⟨#[43]⟩, .string ⟨#[91, 48, 49]⟩] 9)).alloc (.cells #[.string ⟨#[91, 93]⟩, .string ⟨#[123, 125]⟩, .string ⟨#[91, 91, 93, 44, 123, 125, 93]⟩, .string ⟨#[123, 34, 34, 58, 123, 34, 34, 58, 91, 93, 125, 125]⟩, .string ⟨#[32, 49, 32]⟩, .string ⟨#[34, 34]⟩, .string ⟨#[91, 110, 117, 108, 108, 44, 116, 114, 117, 101, 44, 102, 97, 108, 115, 101, 93]⟩, .string ⟨#[45, 48]⟩, .string ⟨#[123, 34, 97, 34, 58, 49, 44, 34, 97, 34, 58, 50, 125]⟩] 9)
  obtain ⟨w0, hw0⟩ : ∃ w0, (w.alloc (.cells #[.string ⟨#[91, 44]⟩, .string ⟨#[91, 49, 44, 93]⟩, .string ⟨#[123, 49, 32]⟩, .string ⟨#[123, 34, 97, 34, 44]⟩, .string ⟨#[123, 34, 97, 34, 58, 125]⟩, .string ⟨#[123, 44]⟩, .string ⟨#[93]⟩, .string ⟨#[125]⟩, .string ⟨#[91, 125]⟩, .string ⟨#[123, 93]⟩, .string ⟨#[49, 32, 49, 32]⟩, .string ⟨#[91, 49, 32, 49, 44]⟩, .string ⟨#[58]⟩, .string ⟨#[123, 34, 97, 34, 58, 49, 44, 125]⟩, .string ⟨#[39]⟩, .string ⟨#[91, 49, 125]⟩, .string ⟨#[110, 117, 108, 76]⟩, .string ⟨#[43]⟩, .string ⟨#[91, 48, 49]⟩] 9)).alloc (.cells #[.string ⟨#[91, 93]⟩, .string ⟨#[123, 125]⟩, .string ⟨#[91, 91, 93, 44, 123, 125, 93]⟩, .string ⟨#[123, 34, 34, 58, 123, 34, 34, 58, 91, 93, 125, 125]⟩, .string ⟨#[32, 49, 32]⟩, .string ⟨#[34, 34]⟩, .string ⟨#[91, 110, 117, 108, 108, 44, 116, 114, 117, 101, 44, 102, 97, 108, 115, 101, 93]⟩, .string ⟨#[45, 48]⟩, .string ⟨#[123, 34, 97, 34, 58, 49, 44, 34, 97, 34, 58, 50, 125]⟩] 9) = w0 := ⟨_, rfl⟩
  rw [hw0] at hc1 hc2 hkw
  have hz0 : w0.heap.size = w.heap.size + 2 := by rw [← hw0]; simp
  have hal : Calls Try.prog 9 #[] ((w.alloc (.cells #[.string ⟨#[91, 44]⟩, .string ⟨#[91, 49, 44, 93]⟩, .string ⟨#[123, 49, 32]⟩, .string ⟨#[123, 34, 97, 34, 44]⟩, .string ⟨#[123, 34, 97, 34, 58, 125]⟩, .string ⟨#[123, 44]⟩, .string ⟨#[93]⟩, .string ⟨#[125]⟩, .string ⟨#[91, 125]⟩, .string ⟨#[123, 93]⟩, .string ⟨#[49, 32, 49, 32]⟩, .string ⟨#[91, 49, 32, 49, 44]⟩, .string ⟨#[58]⟩, .string ⟨#[123, 34, 97, 34, 58, 49, 44, 125]⟩, .string ⟨#[39]⟩, .string ⟨#[91, 49, 125]⟩, .string ⟨#[110, 117, 108, 76]⟩, .string ⟨#[43]⟩, .string ⟨#[91, 48, 49]⟩] 9)).alloc (.cells #[.string ⟨#[91, 93]⟩, .string ⟨#[123, 125]⟩, .string ⟨#[91, 91, 93, 44, 123, 125, 93]⟩, .string ⟨#[123, 34, 34, 58, 123, 34, 34, 58, 91, 93, 125, 125]⟩, .string ⟨#[32, 49, 32]⟩, .string ⟨#[34, 34]⟩, .string ⟨#[91, 110, 117, 108, 108, 44, 116, 114, 117, 101, 44, 102, 97, 108, 115, 101, 93]⟩, .string ⟨#[45, 48]⟩, .string ⟨#[123, 34, 97, 34, 58, 49, 44, 34, 97, 34, 58, 50, 125]⟩] 9)) (fun e w' => e = .returned (.bool true) ∧ Keeps [] w0 w') := hw0 ▸ jalive_any _
  have HAL := Lib.hid hal
  obtain ⟨Z, hZ⟩ : ∃ Z : Nat, sv.size = Z := ⟨_, rfl⟩
  have hZ1 : 1 ≤ Z := by omega
  have hZ8 : Z ≤ 8 := by omega
  have hZl : l.length = Z := by omega
  have HC1 := Lib.hid hc1
  have HC2 := Lib.hid hc2
  have HKW := Lib.hid hkw
  have HS := Lib.hid hsv
  have HBAD := Lib.hid hbad
  have HGOOD := Lib.hid hgood
  have HZL := Lib.hid hZl
  have HSG := Lib.hid hsgl
  have HSZ := Lib.hid hsgz
  have HG1 := Lib.hid hg100
  clear hcell hcellg hc1 hc2 hkw hw0 hal hbad hgood hsv hsg hl hg hsize hZl hl1 hl8 hsgl hsgz hg100
  go_enter Try.func6, Try.ntmps6
  go_wp2_with fail
  refine HAL.out.mono ?_
  rintro e w1 ⟨rfl, k1⟩
  have gc1 := k1.cell HC1.out (by simp)
  have K1 := Lib.hid k1
  have hz1 := k1.size
  clear k1
  go_wp2_with fail
  refine (js_new_yes 4 (by omega) w1).mono ?_
  rintro e w2 ⟨rfl, hin2, k2⟩
  have HIN2 := Lib.hid hin2
  have K2 := Lib.hid (K1.out.trans k2)
  have hz2 := k2.size
  clear gc1 hin2 k2
  go_wp2_with fail
  go_loopw [7] (fun i wr => FormRel w0 w1.heap.size l i wr) (fun i _ => 20 - (intOf i).toNat)
  case atStart =>
    exact ⟨0, _, _, by omega, rfl, HIN2.out, Js.fit_new (by omega), K2.out, by simp [blks_nil]; omega⟩
  case round =>
    obtain ⟨q, mv, F, hq, rfl, hin, hfit, hkk, hlow⟩ := hrel
    have HKK := Lib.hid hkk
    have HLOW := Lib.hid hlow
    have hzr := hkk.size
    by_cases hlt : q < Z
    · have hql : q < l.length := by have := HZL.out; omega
      have hqs : q < sv.size := by omega
      obtain ⟨x, hx⟩ : ∃ x : UInt8, sv[q]'hqs = x := ⟨_, rfl⟩
      have hxl : l[q]'hql = x := by
        rw [← hx]
        simp only [← HS.out]
        rfl
      have hx8 : x.toNat < 256 := x.toNat_lt
      have hbad := HBAD.out ⟨q, by omega⟩ hql
      have hrt := feed_take (l := l) hql (Js.new 4)
      rw [hxl] at hrt
      have hst := js_step w1.heap.size w1.heap.size mv _ F (x.toNat : Int) wr hin hfit (by have := js_lt hin _ (js_self hin); omega) (by omega) (by omega)
      have hfit2 := Js.fit_step hfit (x.toNat : Int)
      obtain ⟨r, hr⟩ : ∃ r, ((Js.new 4).feed (l.take q)).step x.toNat = r := ⟨_, rfl⟩
      rw [hr] at hst hrt hfit2
      rw [hrt, HZL.out] at hbad
      have HRT := Lib.hid hrt
      have HE := Lib.hid hbad
      have HFIT2 := Lib.hid hfit2
      have hqi : (q : Int) < (Z : Int) := by omega
      clear hbad hrt hr hin hfit hkk hlow hxl hfit2
      go_wp2_with fail
      refine hst.mono ?_
      rintro e w3 ⟨v2, mv2, F2, rfl, hown2, hin2, hk2, hb2, hd2⟩
      obtain ⟨o2, c2, rfl⟩ := hown2.shape
      have H2 := Lib.hid hin2
      have HK2 := Lib.hid (HKK.out.trans' hk2 (fun i hi => Or.inr (HLOW.out i hi)))
      have HL2 := Lib.hid (show ∀ i ∈ F2 ++ blks mv2, w0.heap.size ≤ i from fun i hi => (hb2 i hi).elim (fun h => HLOW.out i h) (fun h => by omega))
      clear hst hown2 hin2 hk2 hb2 hd2
      by_cases hlast : q + 1 = Z
      · have he : r.2.e = 2 := by have h := HE.out; rw [if_pos hlast] at h; exact h
        rw [he]
        have hq2 : ((q : Int) == (Z : Int) - 1) = true := by rw [beq_iff_eq]; omega
        clear he
        go_wp2_with fail
        go_roundw
        case rel => exact ⟨q + 1, mv2, F2, by omega, by go_num, by rw [HRT.out]; exact H2.out, by rw [HRT.out]; exact HFIT2.out, HK2.out, HL2.out⟩
        case measure => simp [intOf]; omega
      · have he : r.2.e = 0 := by have h := HE.out; rw [if_neg hlast] at h; exact h
        rw [he]
        have hq2 : ((q : Int) == (Z : Int) - 1) = false := by rw [beq_eq_false_iff_ne]; omega
        clear he
        go_wp2_with fail
        go_roundw
        case rel => exact ⟨q + 1, mv2, F2, by omega, by go_num, by rw [HRT.out]; exact H2.out, by rw [HRT.out]; exact HFIT2.out, HK2.out, HL2.out⟩
        case measure => simp [intOf]; omega
    · obtain rfl : q = Z := by have := HZL.out; omega
      have gc2 := HKK.out.cell HC2.out (by simp)
      have hge : ¬ (q : Int) < (q : Int) := by omega
      have hall := jsAll_any sg 4 wr (by have := HSZ.out; have := HG1.out; omega)
      rw [HSG.out] at hall
      have HALL := Lib.hid hall
      clear hin hfit hkk hlow hall
      go_wp2_with fail
      refine HALL.out.mono ?_
      rintro e w3 ⟨v3, rfl, hown3, k3⟩
      obtain ⟨o3, c3, rfl⟩ := hown3.shape
      obtain ⟨e0, e1, e2⟩ := HGOOD.out
      simp only [e0]
      have e3 : (0 : Int) < ((jsAll g 4).1.length : Int) := by omega
      have K3 := Lib.hid (HKW.out.trans (HKK.out.trans k3))
      clear hown3 k3
      go_wp2_with fail
      go_ret
      exact ⟨rfl, K3.out⟩
end Go.Proofs.Ytbeocehadnhmnaa
