/-
  PackinCounts' walk.
-/
import Derived.Test.YtcmeebciolegbaaPackStepped
import Derived.Test.YtcmeebciolegbaaPackCntPlain
import Derived.Test.YtcmeebciolegbaaPackOne
import Derived.Deep.RegionHeld
import Derived.Deep.QuietTactic
import Derived.BigQuiet
namespace Go.Proofs.Ytcmeebciolegbaa
open Go.RowKit Go.Tru

/-- so many parts have been told -/
def PCntRel (m : Bool) (n : Nat) (w : World) (g : Nat) (i : Value) (wr : World) : Prop :=
  ∃ (k : Nat) (p : Pk) (ov sv : Value), k ≤ cntItems m n ∧ i = .int .i64 k ∧ PCnt m n (cntItems m n) k p ∧ PkOk (100 + k) wr g g ov sv p ∧ Keeps [] w wr

theorem _root_.Go.Tru.PkOk.more {N M : Int} {w : World} {base b : Nat} {ov sv : Value} {p : Pk} (h : PkOk N w base b ov sv p) (hm : N ≤ M) (hM : M ≤ 100000000) : PkOk M w base b ov sv p :=
  ⟨h.in_, ⟨h.fit.core.mono hm, h.fit.kind, h.fit.num, h.fit.room, h.fit.sep⟩, ⟨Int.le_trans h.big.1 hm, hM⟩, h.base_⟩

set_option maxHeartbeats 3200000 in
set_option maxRecDepth 100000 in
theorem pcnt_false (n : Nat) (hn : n ≤ 15) (gr : Nat) (hgr : gr < 4294967296) (w : World) :
    Calls Try.prog 8 #[.int .i64 n, .bool false, .int .u32 gr] w fun r w' => r = .returned (.bool true) ∧ Keeps [] w w' := by
  have h1 : ¬ (n : Int) < 0 := by omega
  have h2 : ¬ 15 < (n : Int) := by omega
  have hw144 : IntKind.u8.wrap (144 + (n : Int)) = 144 + (n : Int) := by simp [IntKind.wrap, IntKind.bits, IntKind.signed]; omega
  have hwg : IntKind.u64.wrap (gr : Int) = gr := by simp [IntKind.wrap, IntKind.bits, IntKind.signed]; omega
  have hfirst := pcnt_first false n hn
  have hall := pcnt_all false gr hgr
  simp only [if_false, Bool.false_eq_true] at hfirst hall
  obtain ⟨x, hx⟩ : ∃ x : Int, 144 + (n : Int) = x := ⟨_, rfl⟩
  rw [hx] at hw144 hfirst
  have hx0 : 0 ≤ x ∧ x ≤ 255 := by omega
  have hit : cntItems false n = n := rfl
  have HX0 := Lib.hid hx0
  have HIT := Lib.hid hit
  have HFIRST := Lib.hid hfirst
  have HALL := Lib.hid hall
  have HGR := Lib.hid hgr
  clear hfirst hall hgr hit hx0
  go_enter Try.func8, Try.ntmps8
  go_wp2_with fail
  refine (palive_any w).mono ?_
  rintro e w1 ⟨rfl, k1⟩
  have K1 := Lib.hid k1
  have z1 := k1.size
  clear k1
  go_wp2_with fail
  refine (pnew_yes 2 (by omega) w1).mono ?_
  rintro e w3 ⟨rfl, hin3, k3⟩
  have HOK3 := Lib.hid (show PkOk 0 w3 w1.heap.size w1.heap.size _ _ (Pk.new 2) from ⟨hin3, Pk.fit_new (by omega), by omega, k3.size⟩)
  have K3 := Lib.hid (K1.out.trans k3)
  clear hin3 k3
  have hst := pstepped HOK3.out x HX0.out.1 HX0.out.2 z1 K3.out (by omega)
  rw [HFIRST.out.e] at hst
  have HST := Lib.hid hst
  clear hst
  go_wp2_with fail
  refine HST.out.mono ?_
  rintro e w4 ⟨v4, ov4, sv4, rfl, hown4, hok4, k4, z4⟩
  obtain ⟨a4, c4, rfl⟩ := hown4.shape
  have hdone := pdone_any hok4.in_
  have hcnt := HFIRST.out
  rw [hcnt.e, hcnt.done, HIT.out] at hdone
  have hd0 : decide (0 = n) = decide ((n : Int) = 0) := by rw [decide_eq_decide]; omega
  rw [hd0] at hdone
  have hdb : decide ((n : Int) = 0) = ((n : Int) == 0) := rfl
  rw [hdb] at hdone
  simp only [decide_true, Bool.true_and] at hdone
  have HDONE := Lib.hid hdone
  have HOK4 := Lib.hid hok4
  have K4 := Lib.hid k4
  have hne : ∀ b : Bool, (b != b) = false := fun b => by cases b <;> rfl
  have hnb := hne ((n : Int) == 0)
  have HNB := Lib.hid hnb
  clear hown4 hok4 k4 hdone hcnt hd0 hdb hne hnb
  go_wp2_with fail
  refine HDONE.out.mono ?_
  rintro e w5 ⟨rfl, rfl⟩
  have hnb := HNB.out
  obtain ⟨bb, hbb⟩ : ∃ bb, ((n : Int) == 0) = bb := ⟨_, rfl⟩
  rw [hbb] at hnb ⊢
  go_wp2_with fail
  clear hnb hbb
  obtain ⟨wo, hwo⟩ : ∃ wo : World, wo = w4 := ⟨_, rfl⟩
  go_loopw [13] (fun i wr => PCntRel false n w w1.heap.size i wr) (fun i _ => 100 - (intOf i).toNat)
  case atStart => exact ⟨0, _, _, _, Nat.zero_le _, rfl, HFIRST.out, HOK4.out.more (by omega) (by omega), K4.out⟩
  case round =>
    obtain ⟨k, p, ov, sv, hk, rfl, hcnt, hok, hK⟩ := hrel
    have hk2 : k ≤ n := hk
    have HOK := Lib.hid hok
    have HK := Lib.hid hK
    have HCNT := Lib.hid hcnt
    have HHK := Lib.hid hk
    clear hok hK hcnt hk
    by_cases hlt : k < n
    · have hltI : (k : Int) < (n : Int) := by omega
      have hcnt2 := pcnt_step (m := false) hlt HCNT.out
      have hst := pstepped HOK.out 160 (by omega) (by omega) z1 HK.out (by omega)
      rw [hcnt2.e] at hst
      have HST := Lib.hid hst
      have HC2 := Lib.hid hcnt2
      clear hst hcnt2
      go_wp2_with fail
      refine HST.out.mono ?_
      rintro e w4 ⟨v4, ov4, sv4, rfl, hown4, hok4, k4, z4⟩
      obtain ⟨a4, c4, rfl⟩ := hown4.shape
      have hdone := pdone_any hok4.in_
      rw [HC2.out.e, HC2.out.done, HIT.out] at hdone
      have hd0 : decide (k + 1 = n) = decide ((k : Int) = (n : Int) - 1) := by rw [decide_eq_decide]; omega
      have hdb : decide ((k : Int) = (n : Int) - 1) = ((k : Int) == (n : Int) - 1) := rfl
      rw [hd0, hdb] at hdone
      simp only [decide_true, Bool.true_and] at hdone
      have HDONE := Lib.hid hdone
      have K4 := Lib.hid k4
      have HOK4 := Lib.hid hok4
      have hne : ∀ b : Bool, (b != b) = false := fun b => by cases b <;> rfl
      have hnb := hne ((k : Int) == (n : Int) - 1)
      have HNB := Lib.hid hnb
      clear hown4 hok4 k4 hdone hd0 hdb hne hnb
      go_wp2_with fail
      refine HDONE.out.mono ?_
      rintro e w5 ⟨rfl, rfl⟩
      have hnb := HNB.out
      obtain ⟨bb, hbb⟩ : ∃ bb, ((k : Int) == (n : Int) - 1) = bb := ⟨_, rfl⟩
      rw [hbb] at hnb ⊢
      go_wp2_with fail
      go_roundw
      case rel => exact ⟨k + 1, _, ov4, sv4, hlt, by go_num, HC2.out, HOK4.out.more (by omega) (by omega), K4.out⟩
      case measure => simp [intOf]; omega
    · have hkn : n = k := by omega
      subst hkn
      have hge : ¬ ((n : Nat) : Int) < (n : Int) := by omega
      have hall := HALL.out
      obtain ⟨tot, htot⟩ : ∃ tot, packAll (221 :: bigB gr 4) 2 = tot := ⟨_, rfl⟩
      have hca := fun W => packAll_any (⟨#[221]⟩ ++ bytesOf (bigB gr 4)) 2 W (by rw [str_cons, bytesOf_sz]; simp [bigB_len])
      rw [str_cons, bytesOf_list, htot] at hca
      rw [htot] at hall
      obtain ⟨ln, hln⟩ : ∃ ln, tot.1.length = ln := ⟨_, rfl⟩
      have HCA := Lib.hid (show ∀ W, Calls Try.prog 13 #[.string (⟨#[221]⟩ ++ bytesOf (bigB gr 4)), .int .i64 2] W fun r w' => ∃ a cp, r = .returned (.tuple #[.slice a ln cp, .int .i64 tot.2]) ∧ Keeps [] W w' from fun W => by
        rw [str_cons]
        refine (hca W).mono ?_
        rintro e w' ⟨v, rfl, hown, kk⟩
        obtain ⟨a, cp, rfl⟩ := hown.shape
        rw [hln]
        exact ⟨a, cp, rfl, kk⟩)
      have HTOT := Lib.hid hall
      have hconv : ∀ (W : World) (g : Nat), W.cell? ⟨g, 0, none⟩ = some (.int .u8 221) → (convert 40 9 (.slice (some ⟨g, 0, none⟩) 1 1)).run Try.prog W = .ok (.string ⟨#[221]⟩) W := fun W g hg =>
        run_convert_bytes_back W 40 9 5 ⟨g, 0, none⟩ 1 [221] Try.underlying40 Try.underlying5 Try.underlying9 (fun j hj => by
          obtain rfl : j = 0 := by simp at hj; omega
          exact hg)
      have hconvA : ∀ (W : World) (t : TypeId), (convert 40 9 (.slice (some ⟨W.heap.size, 0, none⟩) 1 1)).run Try.prog (W.alloc (.cells #[.int .u8 221] t)) = .ok (.string ⟨#[221]⟩) (W.alloc (.cells #[.int .u8 221] t)) := fun W t =>
        hconv _ _ ((Has.new' W #[.int .u8 221] t rfl).cell 0)
      have hconvB : ∀ (W : World) (t : TypeId), (convert 40 9 (.slice (some ⟨W.heap.size, 0, none⟩) 1 1)).run Try.prog (W.alloc (.cells #[.int .u8 221] t)).drew = .ok (.string ⟨#[221]⟩) (W.alloc (.cells #[.int .u8 221] t)).drew := fun W t =>
        hconv _ _ ((Has.new' W #[.int .u8 221] t rfl).cell 0)
      have HCONV := Lib.hid hconv
      have HBIG := Lib.hid (fun W => big_any gr 4 (by have := HGR.out; omega) (by omega) W)
      clear hall htot hca hconv hln
      obtain ⟨wp, hwp⟩ : ∃ wp : World, wp = wr := ⟨_, rfl⟩
      go_wp2_with fail
      go_region_held (fun _ => True) (trivial) (first
        | (go_at_call 15; refine (HBIG.out _).mono ?_; rintro e w7 ⟨rfl, k7⟩; try have c7 := HCONV.out w7 wr.heap.size (k7.cell ((Has.new' wr #[.int .u8 221] _ rfl).cell 0) (by simp)))
        | (go_at_call 13; refine (HCA.out _).mono ?_; rintro e w8 ⟨a8, cp8, rfl, k8⟩))
      all_goals
        have KK : Keeps [] w w8 := by
          first
            | exact (((HK.out.alloc _).drew).trans k7).trans k8
            | exact (((HK.out.drew).trans k7).alloc _).trans k8
            | exact (((HK.out.drew).alloc _).trans k7).trans k8
            | exact ((((HK.out.drew).trans k7).alloc _).drew).trans k8
            | exact ((((HK.out.drew).alloc _).drew).trans k7).trans k8
        have K8 := Lib.hid KK
        have htot := HTOT.out
        clear KK k7 k8 hconvA hconvB HCONV HBIG HCA
        obtain ⟨ee, hee⟩ : ∃ ee, tot.2 = ee := ⟨_, rfl⟩
        rw [hee] at htot
        rw [hee]
        clear hee
        by_cases hg0 : gr = 0
        · subst hg0
          rw [if_pos rfl] at htot
          subst htot
          go_wp2_with fail
          go_ret
          exact ⟨rfl, K8.out⟩
        · have hgn : ((gr : Int) == 0) = false := by simp; omega
          rw [if_neg hg0] at htot
          by_cases hg1 : 1000000 < gr
          · rw [if_pos hg1] at htot
            subst htot
            have hg2 : (1000000 : Int) < (gr : Int) := by omega
            clear hg0 hg1
            go_wp2_with fail
            go_ret
            exact ⟨rfl, K8.out⟩
          · rw [if_neg hg1] at htot
            subst htot
            have hg2 : decide ((1000000 : Int) < (gr : Int)) = false := decide_eq_false (by omega)
            clear hg0 hg1
            go_wp2_with fail
            go_ret
            exact ⟨rfl, K8.out⟩

set_option maxHeartbeats 3200000 in
set_option maxRecDepth 100000 in
theorem pcnt_true (n : Nat) (hn : n ≤ 15) (gr : Nat) (hgr : gr < 4294967296) (w : World) :
    Calls Try.prog 8 #[.int .i64 n, .bool true, .int .u32 gr] w fun r w' => r = .returned (.bool true) ∧ Keeps [] w w' := by
  have h1 : ¬ (n : Int) < 0 := by omega
  have h2 : ¬ 15 < (n : Int) := by omega
  have hw144 : IntKind.u8.wrap (144 + (n : Int)) = 144 + (n : Int) := by simp [IntKind.wrap, IntKind.bits, IntKind.signed]; omega
  have hw128 : IntKind.u8.wrap (128 + (n : Int)) = 128 + (n : Int) := by simp [IntKind.wrap, IntKind.bits, IntKind.signed]; omega
  have hwg : IntKind.u64.wrap (gr : Int) = gr := by simp [IntKind.wrap, IntKind.bits, IntKind.signed]; omega
  have hfirst := pcnt_first true n hn
  have hall := pcnt_all true gr hgr
  simp only [if_true] at hfirst hall
  obtain ⟨x, hx⟩ : ∃ x : Int, 128 + (n : Int) = x := ⟨_, rfl⟩
  rw [hx] at hw128 hfirst
  have hx0 : 0 ≤ x ∧ x ≤ 255 := by omega
  have hit : cntItems true n = 2 * n := rfl
  have HX0 := Lib.hid hx0
  have HIT := Lib.hid hit
  have HFIRST := Lib.hid hfirst
  have HALL := Lib.hid hall
  have HGR := Lib.hid hgr
  clear hfirst hall hgr hit hx0
  go_enter Try.func8, Try.ntmps8
  go_wp2_with fail
  refine (palive_any w).mono ?_
  rintro e w1 ⟨rfl, k1⟩
  have K1 := Lib.hid k1
  have z1 := k1.size
  clear k1
  go_wp2_with fail
  refine (pnew_yes 2 (by omega) w1).mono ?_
  rintro e w3 ⟨rfl, hin3, k3⟩
  have HOK3 := Lib.hid (show PkOk 0 w3 w1.heap.size w1.heap.size _ _ (Pk.new 2) from ⟨hin3, Pk.fit_new (by omega), by omega, k3.size⟩)
  have K3 := Lib.hid (K1.out.trans k3)
  clear hin3 k3
  have hst := pstepped HOK3.out x HX0.out.1 HX0.out.2 z1 K3.out (by omega)
  rw [HFIRST.out.e] at hst
  have HST := Lib.hid hst
  clear hst
  go_wp2_with fail
  refine HST.out.mono ?_
  rintro e w4 ⟨v4, ov4, sv4, rfl, hown4, hok4, k4, z4⟩
  obtain ⟨a4, c4, rfl⟩ := hown4.shape
  have hdone := pdone_any hok4.in_
  have hcnt := HFIRST.out
  rw [hcnt.e, hcnt.done, HIT.out] at hdone
  have hd0 : decide (0 = 2 * n) = decide ((n : Int) = 0) := by rw [decide_eq_decide]; omega
  rw [hd0] at hdone
  have hdb : decide ((n : Int) = 0) = ((n : Int) == 0) := rfl
  rw [hdb] at hdone
  simp only [decide_true, Bool.true_and] at hdone
  have HDONE := Lib.hid hdone
  have HOK4 := Lib.hid hok4
  have K4 := Lib.hid k4
  have hne : ∀ b : Bool, (b != b) = false := fun b => by cases b <;> rfl
  have hnb := hne ((n : Int) == 0)
  have HNB := Lib.hid hnb
  clear hown4 hok4 k4 hdone hcnt hd0 hdb hne hnb
  go_wp2_with fail
  refine HDONE.out.mono ?_
  rintro e w5 ⟨rfl, rfl⟩
  have hnb := HNB.out
  obtain ⟨bb, hbb⟩ : ∃ bb, ((n : Int) == 0) = bb := ⟨_, rfl⟩
  rw [hbb] at hnb ⊢
  go_wp2_with fail
  clear hnb hbb
  obtain ⟨wo, hwo⟩ : ∃ wo : World, wo = w4 := ⟨_, rfl⟩
  go_loopw [13] (fun i wr => PCntRel true n w w1.heap.size i wr) (fun i _ => 100 - (intOf i).toNat)
  case atStart => exact ⟨0, _, _, _, Nat.zero_le _, rfl, HFIRST.out, HOK4.out.more (by omega) (by omega), K4.out⟩
  case round =>
    obtain ⟨k, p, ov, sv, hk, rfl, hcnt, hok, hK⟩ := hrel
    have hk2 : k ≤ 2 * n := hk
    have HOK := Lib.hid hok
    have HK := Lib.hid hK
    have HCNT := Lib.hid hcnt
    have HHK := Lib.hid hk
    clear hok hK hcnt hk
    by_cases hlt : k < 2 * n
    · have hltI : (k : Int) < 2 * (n : Int) := by omega
      have hcnt2 := pcnt_step (m := true) hlt HCNT.out
      have hst := pstepped HOK.out 160 (by omega) (by omega) z1 HK.out (by omega)
      rw [hcnt2.e] at hst
      have HST := Lib.hid hst
      have HC2 := Lib.hid hcnt2
      clear hst hcnt2
      go_wp2_with fail
      refine HST.out.mono ?_
      rintro e w4 ⟨v4, ov4, sv4, rfl, hown4, hok4, k4, z4⟩
      obtain ⟨a4, c4, rfl⟩ := hown4.shape
      have hdone := pdone_any hok4.in_
      rw [HC2.out.e, HC2.out.done, HIT.out] at hdone
      have hd0 : decide (k + 1 = 2 * n) = decide ((k : Int) = 2 * (n : Int) - 1) := by rw [decide_eq_decide]; omega
      have hdb : decide ((k : Int) = 2 * (n : Int) - 1) = ((k : Int) == 2 * (n : Int) - 1) := rfl
      rw [hd0, hdb] at hdone
      simp only [decide_true, Bool.true_and] at hdone
      have HDONE := Lib.hid hdone
      have K4 := Lib.hid k4
      have HOK4 := Lib.hid hok4
      have hne : ∀ b : Bool, (b != b) = false := fun b => by cases b <;> rfl
      have hnb := hne ((k : Int) == 2 * (n : Int) - 1)
      have HNB := Lib.hid hnb
      clear hown4 hok4 k4 hdone hd0 hdb hne hnb
      go_wp2_with fail
      refine HDONE.out.mono ?_
      rintro e w5 ⟨rfl, rfl⟩
      have hnb := HNB.out
      obtain ⟨bb, hbb⟩ : ∃ bb, ((k : Int) == 2 * (n : Int) - 1) = bb := ⟨_, rfl⟩
      rw [hbb] at hnb ⊢
      go_wp2_with fail
      go_roundw
      case rel => exact ⟨k + 1, _, ov4, sv4, hlt, by go_num, HC2.out, HOK4.out.more (by omega) (by omega), K4.out⟩
      case measure => simp [intOf]; omega
    · have hkn : 2 * n = k := by omega
      subst hkn
      have hge : ¬ ((2 * n : Nat) : Int) < 2 * (n : Int) := by omega
      have hall := HALL.out
      obtain ⟨tot, htot⟩ : ∃ tot, packAll (223 :: bigB gr 4) 2 = tot := ⟨_, rfl⟩
      have hca := fun W => packAll_any (⟨#[223]⟩ ++ bytesOf (bigB gr 4)) 2 W (by rw [str_cons, bytesOf_sz]; simp [bigB_len])
      rw [str_cons, bytesOf_list, htot] at hca
      rw [htot] at hall
      obtain ⟨ln, hln⟩ : ∃ ln, tot.1.length = ln := ⟨_, rfl⟩
      have HCA := Lib.hid (show ∀ W, Calls Try.prog 13 #[.string (⟨#[223]⟩ ++ bytesOf (bigB gr 4)), .int .i64 2] W fun r w' => ∃ a cp, r = .returned (.tuple #[.slice a ln cp, .int .i64 tot.2]) ∧ Keeps [] W w' from fun W => by
        rw [str_cons]
        refine (hca W).mono ?_
        rintro e w' ⟨v, rfl, hown, kk⟩
        obtain ⟨a, cp, rfl⟩ := hown.shape
        rw [hln]
        exact ⟨a, cp, rfl, kk⟩)
      have HTOT := Lib.hid hall
      have hconv : ∀ (W : World) (g : Nat), W.cell? ⟨g, 0, none⟩ = some (.int .u8 223) → (convert 40 9 (.slice (some ⟨g, 0, none⟩) 1 1)).run Try.prog W = .ok (.string ⟨#[223]⟩) W := fun W g hg =>
        run_convert_bytes_back W 40 9 5 ⟨g, 0, none⟩ 1 [223] Try.underlying40 Try.underlying5 Try.underlying9 (fun j hj => by
          obtain rfl : j = 0 := by simp at hj; omega
          exact hg)
      have hconvA : ∀ (W : World) (t : TypeId), (convert 40 9 (.slice (some ⟨W.heap.size, 0, none⟩) 1 1)).run Try.prog (W.alloc (.cells #[.int .u8 223] t)) = .ok (.string ⟨#[223]⟩) (W.alloc (.cells #[.int .u8 223] t)) := fun W t =>
        hconv _ _ ((Has.new' W #[.int .u8 223] t rfl).cell 0)
      have hconvB : ∀ (W : World) (t : TypeId), (convert 40 9 (.slice (some ⟨W.heap.size, 0, none⟩) 1 1)).run Try.prog (W.alloc (.cells #[.int .u8 223] t)).drew = .ok (.string ⟨#[223]⟩) (W.alloc (.cells #[.int .u8 223] t)).drew := fun W t =>
        hconv _ _ ((Has.new' W #[.int .u8 223] t rfl).cell 0)
      have HCONV := Lib.hid hconv
      have HBIG := Lib.hid (fun W => big_any gr 4 (by have := HGR.out; omega) (by omega) W)
      clear hall htot hca hconv hln
      obtain ⟨wp, hwp⟩ : ∃ wp : World, wp = wr := ⟨_, rfl⟩
      go_wp2_with fail
      go_region_held (fun _ => True) (trivial) (first
        | (go_at_call 15; refine (HBIG.out _).mono ?_; rintro e w7 ⟨rfl, k7⟩; try have c7 := HCONV.out w7 wr.heap.size (k7.cell ((Has.new' wr #[.int .u8 223] _ rfl).cell 0) (by simp)))
        | (go_at_call 13; refine (HCA.out _).mono ?_; rintro e w8 ⟨a8, cp8, rfl, k8⟩))
      all_goals
        have KK : Keeps [] w w8 := by
          first
            | exact (((HK.out.alloc _).drew).trans k7).trans k8
            | exact (((HK.out.drew).trans k7).alloc _).trans k8
            | exact (((HK.out.drew).alloc _).trans k7).trans k8
            | exact ((((HK.out.drew).trans k7).alloc _).drew).trans k8
            | exact ((((HK.out.drew).alloc _).drew).trans k7).trans k8
        have K8 := Lib.hid KK
        have htot := HTOT.out
        clear KK k7 k8 hconvA hconvB HCONV HBIG HCA
        obtain ⟨ee, hee⟩ : ∃ ee, tot.2 = ee := ⟨_, rfl⟩
        rw [hee] at htot
        rw [hee]
        clear hee
        by_cases hg0 : gr = 0
        · subst hg0
          rw [if_pos rfl] at htot
          subst htot
          go_wp2_with fail
          go_ret
          exact ⟨rfl, K8.out⟩
        · have hgn : ((gr : Int) == 0) = false := by simp; omega
          rw [if_neg hg0] at htot
          by_cases hg1 : 1000000 < gr
          · rw [if_pos hg1] at htot
            subst htot
            have hg2 : (1000000 : Int) < (gr : Int) := by omega
            clear hg0 hg1
            go_wp2_with fail
            go_ret
            exact ⟨rfl, K8.out⟩
          · rw [if_neg hg1] at htot
            subst htot
            have hg2 : decide ((1000000 : Int) < (gr : Int)) = false := decide_eq_false (by omega)
            clear hg0 hg1
            go_wp2_with fail
            go_ret
            exact ⟨rfl, K8.out⟩

set_option maxHeartbeats 1600000 in
set_option maxRecDepth 100000 in
theorem packinCounts_walk (a : Int) (m : Bool) (g : Int) (w : World) (ha : -9223372036854775808 ≤ a ∧ a ≤ 9223372036854775807) (hg : 0 ≤ g ∧ g ≤ 4294967295) :
    Calls Try.prog 8 #[.int .i64 a, .bool m, .int .u32 g] w fun r w' => r = .returned (.bool true) ∧ Below w.heap.size w w' := by
  refine Calls.mono (R := fun r w' => r = .returned (.bool true) ∧ Keeps [] w w') ?_ (fun r w' h => ⟨h.1, h.2.all⟩)
  by_cases hlong : a < 0 ∨ ¬ a < 0 ∧ 15 < a
  · rcases hlong with h | ⟨h, h'⟩
    all_goals
      go_enter Try.func8, Try.ntmps8
      go_wp2_with fail
      refine (palive_any w).mono ?_
      rintro e w1 ⟨rfl, k1⟩
      have K1 := Lib.hid k1
      clear k1
      go_wp2_with fail
      go_ret
      exact ⟨rfl, K1.out⟩
  obtain ⟨n, rfl⟩ : ∃ n : Nat, a = n := ⟨a.toNat, by omega⟩
  obtain ⟨gr, rfl⟩ : ∃ gr : Nat, g = gr := ⟨g.toNat, by omega⟩
  cases m
  · exact pcnt_false n (by omega) gr (by omega) w
  · exact pcnt_true n (by omega) gr (by omega) w
end Go.Proofs.Ytcmeebciolegbaa
