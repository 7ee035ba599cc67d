/-
  CborinCounts' walk.
-/
import Derived.Test.YtepajbimhpmpjaaCborStepped
import Derived.Test.YtepajbimhpmpjaaCborRuns
import Derived.Deep.QuietTactic
import Derived.BigQuiet
namespace Go.Tru
theorem bytesOf_list (l : List UInt8) : (bytesOf l).data.toList = l := by simp [bytesOf]
theorem bytesOf_size (l : List UInt8) : (bytesOf l).size = l.length := by simp [bytesOf, ByteArray.size]
end Go.Tru
namespace Go.Proofs.Ytepajbimhpmpjaa
open Go.RowKit Go.Tru

/-- so many bytes of a text have been stepped -/
def StepRel (p0 : Cb) (l : List UInt8) (w : World) (g : Nat) (i : Value) (wr : World) : Prop :=
  ∃ (k : Nat) (ov sv : Value), k ≤ l.length ∧ i = .int .i64 k ∧ CbOk k wr g g ov sv (p0.steps (l.take k)) ∧ Keeps [] w wr

/-- so many parts have been told -/
def CntRel (m : Bool) (n : Nat) (w : World) (g : Nat) (i : Value) (wr : World) : Prop :=
  ∃ (k : Nat) (p : Cb) (ov sv : Value), k ≤ cntItems m n ∧ i = .int .i64 k ∧ CntSt m n (cntItems m n) k p ∧ CbOk (100 + k) wr g g ov sv p ∧ Keeps [] w wr

theorem CbOk.more {N M : Int} {w : World} {base b : Nat} {ov sv : Value} {p : Cb} (h : CbOk N w base b ov sv p) (hm : N ≤ M) (hM : M ≤ 100000000) : CbOk M w base b ov sv p :=
  ⟨h.in_, ⟨h.fit.core.mono hm, h.fit.none_, h.fit.head, h.fit.room, h.fit.sep⟩, ⟨Int.le_trans h.big.1 hm, hM⟩, h.base_⟩

set_option maxHeartbeats 3200000 in
set_option maxRecDepth 100000 in
theorem cnt_false (n : Nat) (hn : n ≤ 40) (gr : Nat) (hgr : gr < 18446744073709551616) (w : World) :
    Calls Try.prog 10 #[.int .i64 n, .bool false, .int .u64 gr] w fun r w' => r = .returned (.bool true) ∧ Keeps [] w w' := by
  have h1 : ¬ (n : Int) < 0 := by omega
  have h2 : ¬ 40 < (n : Int) := by omega
  have hwr : IntKind.u64.wrap (n : Int) = n := by simp [IntKind.wrap, IntKind.bits, IntKind.signed]; omega
  have hhead := cnt_head false n hn
  have hall := cnt_all false gr hgr
  simp only [if_false, Bool.false_eq_true] at hhead hall
  obtain ⟨s, hs⟩ : ∃ s : ByteArray, s = bytesOf (headB 4 n) := ⟨_, rfl⟩
  have hsl : s.data.toList = headB 4 n := by rw [hs, bytesOf_list]
  have hsz : s.size = (headB 4 n).length := by rw [hs, bytesOf_size]
  have hlen := headB_len 4 n
  have hit : cntItems false n = n := rfl
  have HS := Lib.hid hs
  have HSL := Lib.hid hsl
  have HSZ := Lib.hid hsz
  have HIT := Lib.hid hit
  have HHEAD := Lib.hid hhead
  have HALL := Lib.hid hall
  have HGR := Lib.hid hgr
  have HLEN := Lib.hid hlen
  clear hs hsl hsz hhead hall hgr hlen hit
  go_enter Try.func10, Try.ntmps10
  go_wp2_with fail
  refine (calive_any w).mono ?_
  rintro e w1 ⟨rfl, k1⟩
  have K1 := Lib.hid k1
  clear k1
  go_wp2_with fail
  refine (head_any 4 n (by omega) (by omega) w1).mono ?_
  rintro e w2 ⟨rfl, k2⟩
  rw [← HS.out]
  have K2 := Lib.hid (K1.out.trans k2)
  have z2 := K2.out.size
  clear k2
  go_wp2_with fail
  refine (cpnew_yes 2 (by omega) w2).mono ?_
  rintro e w3 ⟨rfl, hin3, k3⟩
  have HIN3 := Lib.hid hin3
  have K3 := Lib.hid (K2.out.trans k3)
  have z3 := k3.size
  clear hin3 k3
  go_wp2_with fail
  go_loopw [11] (fun i wr => StepRel (Cb.new 2) (headB 4 n) w w2.heap.size i wr) (fun i _ => s.size - (intOf i).toNat)
  case atStart => exact ⟨0, _, _, Nat.zero_le _, rfl, ⟨HIN3.out, Cb.fit_new (by omega), by omega, z3⟩, K3.out⟩
  case round =>
    obtain ⟨k, ov, sv, hk, rfl, hok, hK⟩ := hrel
    have HOK := Lib.hid hok
    have HK := Lib.hid hK
    clear hok hK
    have hks : k ≤ s.size := by rw [HSZ.out]; exact hk
    have hs9 : s.size ≤ 9 := by rw [HSZ.out]; exact HLEN.out.2
    have HHK := Lib.hid hk
    clear hk
    by_cases hlt : k < s.size
    · obtain ⟨x, hxx⟩ : ∃ x : Int, (s[k].toNat : Int) = x := ⟨_, rfl⟩
      have hx0 : 0 ≤ x := by omega
      have hx1 : x ≤ 255 := by have := s[k].toNat_lt; omega
      have hkl : k < (headB 4 n).length := by rw [← HSZ.out]; exact hlt
      have hxl : ((headB 4 n)[k].toNat : Int) = x := by
        rw [← hxx]
        have e : s.data.toList[k]? = (headB 4 n)[k]? := by rw [HSL.out]
        rw [List.getElem?_eq_getElem hkl, List.getElem?_eq_getElem (by rw [HSL.out]; exact hkl)] at e
        injection e with e
        rw [← e]; rfl
      have hsn : (Cb.new 2).steps ((headB 4 n).take (k + 1)) = (((Cb.new 2).steps ((headB 4 n).take k)).step x).2 := by rw [Cb.steps_snoc hkl, hxl]
      have he0 : (((Cb.new 2).steps ((headB 4 n).take k)).step x).2.c.e = 0 := by rw [← hsn]; exact Cb.steps_take HHEAD.out.e (k + 1)
      have hst := cstepped HOK.out x hx0 hx1 z2 HK.out (by omega)
      rw [he0] at hst
      rw [← hsn] at hst
      have HST := Lib.hid hst
      clear hst hxl hsn he0 hkl
      go_wp2_with fail
      refine HST.out.mono ?_
      rintro e w4 ⟨v4, ov4, sv4, rfl, hown4, hok4, k4, z4⟩
      obtain ⟨a4, c4, rfl⟩ := hown4.shape
      have K4 := Lib.hid k4
      have HOK4 := Lib.hid hok4
      clear hown4 hok4 k4
      go_wp2_with fail
      go_roundw
      case rel => exact ⟨k + 1, ov4, sv4, by rw [← HSZ.out]; omega, by go_num, HOK4.out, K4.out⟩
      case measure => simp [intOf]; omega
    · obtain rfl : k = s.size := by omega
      have hfull : (Cb.new 2).steps ((headB 4 n).take s.size) = (Cb.new 2).steps (headB 4 n) := by rw [HSZ.out, List.take_length]
      have hok2 := HOK.out
      rw [hfull] at hok2
      have hdone := cpdone_any hok2.in_
      have hcnt := HHEAD.out
      rw [hcnt.e, hcnt.done, HIT.out] at hdone
      have hd0 : decide (0 = n) = decide ((n : Int) = 0) := by rw [decide_eq_decide]; omega
      rw [hd0] at hdone
      have hdb : decide ((n : Int) = 0) = ((n : Int) == 0) := rfl
      rw [hdb] at hdone
      simp only [decide_true, Bool.true_and] at hdone
      have HDONE := Lib.hid hdone
      have HOK2 := Lib.hid hok2
      have HCNT := Lib.hid hcnt
      clear hok2 hcnt hd0 hdb hfull hdone
      have hne : ∀ b : Bool, (b != b) = false := fun b => by cases b <;> rfl
      go_wp2_with fail
      refine HDONE.out.mono ?_
      rintro e w4 ⟨rfl, rfl⟩
      have hnb := hne ((n : Int) == 0)
      clear hne
      obtain ⟨bb, hbb⟩ : ∃ bb, ((n : Int) == 0) = bb := ⟨_, rfl⟩
      rw [hbb] at hnb ⊢
      go_wp2_with fail
      clear hnb hbb
      have hz : 100 + (s.size : Int) ≤ 200 := by omega
      obtain ⟨wo, rfl⟩ : ∃ wo : World, wo = wr := ⟨_, rfl⟩
      go_loopw [14] (fun i wr => CntRel false n w w2.heap.size i wr) (fun i _ => 100 - (intOf i).toNat)
      case atStart => exact ⟨0, _, _, _, Nat.zero_le _, rfl, HCNT.out, HOK2.out.more (by omega) (by omega), HK.out⟩
      case round =>
        obtain ⟨k, p, ov, sv, hk, rfl, hcnt, hok, hK⟩ := hrel
        have hk2 : k ≤ n := hk
        have HOK := Lib.hid hok
        have HK := Lib.hid hK
        have HCNT := Lib.hid hcnt
        have HHK := Lib.hid hk
        clear hok hK hcnt hk
        by_cases hlt : k < n
        · have hltI : (k : Int) < (n : Int) := by omega
          have hcnt2 := cnt_step (m := false) hlt HCNT.out
          have hst := cstepped HOK.out 96 (by omega) (by omega) z2 HK.out (by omega)
          rw [hcnt2.e] at hst
          have HST := Lib.hid hst
          have HC2 := Lib.hid hcnt2
          clear hst hcnt2
          go_wp2_with fail
          refine HST.out.mono ?_
          rintro e w4 ⟨v4, ov4, sv4, rfl, hown4, hok4, k4, z4⟩
          obtain ⟨a4, c4, rfl⟩ := hown4.shape
          have hdone := cpdone_any hok4.in_
          rw [HC2.out.e, HC2.out.done, HIT.out] at hdone
          have hd0 : decide (k + 1 = n) = decide ((k : Int) = (n : Int) - 1) := by rw [decide_eq_decide]; omega
          have hdb : decide ((k : Int) = (n : Int) - 1) = ((k : Int) == (n : Int) - 1) := rfl
          rw [hd0, hdb] at hdone
          simp only [decide_true, Bool.true_and] at hdone
          have HDONE := Lib.hid hdone
          have K4 := Lib.hid k4
          have HOK4 := Lib.hid hok4
          have hne : ∀ b : Bool, (b != b) = false := fun b => by cases b <;> rfl
          have hnb := hne ((k : Int) == (n : Int) - 1)
          have HNB := Lib.hid hnb
          clear hown4 hok4 k4 hdone hd0 hdb hne hnb
          go_wp2_with fail
          refine HDONE.out.mono ?_
          rintro e w5 ⟨rfl, rfl⟩
          have hnb := HNB.out
          obtain ⟨bb, hbb⟩ : ∃ bb, ((k : Int) == (n : Int) - 1) = bb := ⟨_, rfl⟩
          rw [hbb] at hnb ⊢
          go_wp2_with fail
          go_roundw
          case rel => exact ⟨k + 1, _, ov4, sv4, hlt, by go_num, HC2.out, HOK4.out.more (by omega) (by omega), K4.out⟩
          case measure => simp [intOf]; omega
        · have hkn : n = k := by omega
          subst hkn
          have hge : ¬ ((n : Nat) : Int) < (n : Int) := by omega
          have hall := HALL.out
          obtain ⟨tot, htot⟩ : ∃ tot, cborAll (headB 4 gr) 2 = tot := ⟨_, rfl⟩
          have hca := fun W => cborAll_any (bytesOf (headB 4 gr)) 2 W (by rw [bytesOf_size]; have := headB_len 4 gr; omega)
          rw [bytesOf_list, htot] at hca
          rw [htot] at hall
          have HCA := Lib.hid hca
          have HTOT := Lib.hid hall
          have HHD := Lib.hid (fun W => head_any 4 gr (by omega) HGR.out W)
          clear hall htot hca
          go_wp2_with fail
          refine (HHD.out wr).mono ?_
          rintro e w4 ⟨rfl, k4⟩
          have K4 := Lib.hid (HK.out.trans k4)
          clear k4
          go_wp2_with fail
          refine (HCA.out w4).mono ?_
          rintro e w5 ⟨v5, rfl, hown, k5⟩
          obtain ⟨a5, c5, rfl⟩ := hown.shape
          have K5 := Lib.hid (K4.out.trans k5)
          have htot := HTOT.out
          clear hown k5
          obtain ⟨ee, hee⟩ : ∃ ee, tot.2 = ee := ⟨_, rfl⟩
          rw [hee] at htot
          rw [hee]
          clear hee
          by_cases hg0 : gr = 0
          · subst hg0
            rw [if_pos rfl] at htot
            subst htot
            go_wp2_with fail
            go_ret
            exact ⟨rfl, K5.out⟩
          · have hgn : ((gr : Int) == 0) = false := by simp; omega
            rw [if_neg hg0] at htot
            by_cases hg1 : 1000000 < gr
            · rw [if_pos hg1] at htot
              subst htot
              have hg2 : (1000000 : Int) < (gr : Int) := by omega
              clear hg0 hg1
              go_wp2_with fail
              go_ret
              exact ⟨rfl, K5.out⟩
            · rw [if_neg hg1] at htot
              subst htot
              have hg2 : decide ((1000000 : Int) < (gr : Int)) = false := decide_eq_false (by omega)
              clear hg0 hg1
              go_wp2_with fail
              go_ret
              exact ⟨rfl, K5.out⟩

set_option maxHeartbeats 3200000 in
set_option maxRecDepth 100000 in
theorem cnt_true (n : Nat) (hn : n ≤ 40) (gr : Nat) (hgr : gr < 18446744073709551616) (w : World) :
    Calls Try.prog 10 #[.int .i64 n, .bool true, .int .u64 gr] w fun r w' => r = .returned (.bool true) ∧ Keeps [] w w' := by
  have h1 : ¬ (n : Int) < 0 := by omega
  have h2 : ¬ 40 < (n : Int) := by omega
  have hwr : IntKind.u64.wrap (n : Int) = n := by simp [IntKind.wrap, IntKind.bits, IntKind.signed]; omega
  have hhead := cnt_head true n hn
  have hall := cnt_all true gr hgr
  simp only [if_true] at hhead hall
  obtain ⟨s, hs⟩ : ∃ s : ByteArray, s = bytesOf (headB 5 n) := ⟨_, rfl⟩
  have hsl : s.data.toList = headB 5 n := by rw [hs, bytesOf_list]
  have hsz : s.size = (headB 5 n).length := by rw [hs, bytesOf_size]
  have hlen := headB_len 5 n
  have hit : cntItems true n = 2 * n := rfl
  have HS := Lib.hid hs
  have HSL := Lib.hid hsl
  have HSZ := Lib.hid hsz
  have HIT := Lib.hid hit
  have HHEAD := Lib.hid hhead
  have HALL := Lib.hid hall
  have HGR := Lib.hid hgr
  have HLEN := Lib.hid hlen
  clear hs hsl hsz hhead hall hgr hlen hit
  go_enter Try.func10, Try.ntmps10
  go_wp2_with fail
  refine (calive_any w).mono ?_
  rintro e w1 ⟨rfl, k1⟩
  have K1 := Lib.hid k1
  clear k1
  go_wp2_with fail
  refine (head_any 5 n (by omega) (by omega) w1).mono ?_
  rintro e w2 ⟨rfl, k2⟩
  rw [← HS.out]
  have K2 := Lib.hid (K1.out.trans k2)
  have z2 := K2.out.size
  clear k2
  go_wp2_with fail
  refine (cpnew_yes 2 (by omega) w2).mono ?_
  rintro e w3 ⟨rfl, hin3, k3⟩
  have HIN3 := Lib.hid hin3
  have K3 := Lib.hid (K2.out.trans k3)
  have z3 := k3.size
  clear hin3 k3
  go_wp2_with fail
  go_loopw [11] (fun i wr => StepRel (Cb.new 2) (headB 5 n) w w2.heap.size i wr) (fun i _ => s.size - (intOf i).toNat)
  case atStart => exact ⟨0, _, _, Nat.zero_le _, rfl, ⟨HIN3.out, Cb.fit_new (by omega), by omega, z3⟩, K3.out⟩
  case round =>
    obtain ⟨k, ov, sv, hk, rfl, hok, hK⟩ := hrel
    have HOK := Lib.hid hok
    have HK := Lib.hid hK
    clear hok hK
    have hks : k ≤ s.size := by rw [HSZ.out]; exact hk
    have hs9 : s.size ≤ 9 := by rw [HSZ.out]; exact HLEN.out.2
    have HHK := Lib.hid hk
    clear hk
    by_cases hlt : k < s.size
    · obtain ⟨x, hxx⟩ : ∃ x : Int, (s[k].toNat : Int) = x := ⟨_, rfl⟩
      have hx0 : 0 ≤ x := by omega
      have hx1 : x ≤ 255 := by have := s[k].toNat_lt; omega
      have hkl : k < (headB 5 n).length := by rw [← HSZ.out]; exact hlt
      have hxl : ((headB 5 n)[k].toNat : Int) = x := by
        rw [← hxx]
        have e : s.data.toList[k]? = (headB 5 n)[k]? := by rw [HSL.out]
        rw [List.getElem?_eq_getElem hkl, List.getElem?_eq_getElem (by rw [HSL.out]; exact hkl)] at e
        injection e with e
        rw [← e]; rfl
      have hsn : (Cb.new 2).steps ((headB 5 n).take (k + 1)) = (((Cb.new 2).steps ((headB 5 n).take k)).step x).2 := by rw [Cb.steps_snoc hkl, hxl]
      have he0 : (((Cb.new 2).steps ((headB 5 n).take k)).step x).2.c.e = 0 := by rw [← hsn]; exact Cb.steps_take HHEAD.out.e (k + 1)
      have hst := cstepped HOK.out x hx0 hx1 z2 HK.out (by omega)
      rw [he0] at hst
      rw [← hsn] at hst
      have HST := Lib.hid hst
      clear hst hxl hsn he0 hkl
      go_wp2_with fail
      refine HST.out.mono ?_
      rintro e w4 ⟨v4, ov4, sv4, rfl, hown4, hok4, k4, z4⟩
      obtain ⟨a4, c4, rfl⟩ := hown4.shape
      have K4 := Lib.hid k4
      have HOK4 := Lib.hid hok4
      clear hown4 hok4 k4
      go_wp2_with fail
      go_roundw
      case rel => exact ⟨k + 1, ov4, sv4, by rw [← HSZ.out]; omega, by go_num, HOK4.out, K4.out⟩
      case measure => simp [intOf]; omega
    · obtain rfl : k = s.size := by omega
      have hfull : (Cb.new 2).steps ((headB 5 n).take s.size) = (Cb.new 2).steps (headB 5 n) := by rw [HSZ.out, List.take_length]
      have hok2 := HOK.out
      rw [hfull] at hok2
      have hdone := cpdone_any hok2.in_
      have hcnt := HHEAD.out
      rw [hcnt.e, hcnt.done, HIT.out] at hdone
      have hd0 : decide (0 = 2 * n) = decide ((n : Int) = 0) := by rw [decide_eq_decide]; omega
      rw [hd0] at hdone
      have hdb : decide ((n : Int) = 0) = ((n : Int) == 0) := rfl
      rw [hdb] at hdone
      simp only [decide_true, Bool.true_and] at hdone
      have HDONE := Lib.hid hdone
      have HOK2 := Lib.hid hok2
      have HCNT := Lib.hid hcnt
      clear hok2 hcnt hd0 hdb hfull hdone
      have hne : ∀ b : Bool, (b != b) = false := fun b => by cases b <;> rfl
      go_wp2_with fail
      refine HDONE.out.mono ?_
      rintro e w4 ⟨rfl, rfl⟩
      have hnb := hne ((n : Int) == 0)
      clear hne
      obtain ⟨bb, hbb⟩ : ∃ bb, ((n : Int) == 0) = bb := ⟨_, rfl⟩
      rw [hbb] at hnb ⊢
      go_wp2_with fail
      clear hnb hbb
      have hz : 100 + (s.size : Int) ≤ 200 := by omega
      obtain ⟨wo, rfl⟩ : ∃ wo : World, wo = wr := ⟨_, rfl⟩
      go_loopw [14] (fun i wr => CntRel true n w w2.heap.size i wr) (fun i _ => 100 - (intOf i).toNat)
      case atStart => exact ⟨0, _, _, _, Nat.zero_le _, rfl, HCNT.out, HOK2.out.more (by omega) (by omega), HK.out⟩
      case round =>
        obtain ⟨k, p, ov, sv, hk, rfl, hcnt, hok, hK⟩ := hrel
        have hk2 : k ≤ 2 * n := hk
        have HOK := Lib.hid hok
        have HK := Lib.hid hK
        have HCNT := Lib.hid hcnt
        have HHK := Lib.hid hk
        clear hok hK hcnt hk
        by_cases hlt : k < 2 * n
        · have hltI : (k : Int) < 2 * (n : Int) := by omega
          have hcnt2 := cnt_step (m := true) hlt HCNT.out
          have hst := cstepped HOK.out 96 (by omega) (by omega) z2 HK.out (by omega)
          rw [hcnt2.e] at hst
          have HST := Lib.hid hst
          have HC2 := Lib.hid hcnt2
          clear hst hcnt2
          go_wp2_with fail
          refine HST.out.mono ?_
          rintro e w4 ⟨v4, ov4, sv4, rfl, hown4, hok4, k4, z4⟩
          obtain ⟨a4, c4, rfl⟩ := hown4.shape
          have hdone := cpdone_any hok4.in_
          rw [HC2.out.e, HC2.out.done, HIT.out] at hdone
          have hd0 : decide (k + 1 = 2 * n) = decide ((k : Int) = 2 * (n : Int) - 1) := by rw [decide_eq_decide]; omega
          have hdb : decide ((k : Int) = 2 * (n : Int) - 1) = ((k : Int) == 2 * (n : Int) - 1) := rfl
          rw [hd0, hdb] at hdone
          simp only [decide_true, Bool.true_and] at hdone
          have HDONE := Lib.hid hdone
          have K4 := Lib.hid k4
          have HOK4 := Lib.hid hok4
          have hne : ∀ b : Bool, (b != b) = false := fun b => by cases b <;> rfl
          have hnb := hne ((k : Int) == 2 * (n : Int) - 1)
          have HNB := Lib.hid hnb
          clear hown4 hok4 k4 hdone hd0 hdb hne hnb
          go_wp2_with fail
          refine HDONE.out.mono ?_
          rintro e w5 ⟨rfl, rfl⟩
          have hnb := HNB.out
          obtain ⟨bb, hbb⟩ : ∃ bb, ((k : Int) == 2 * (n : Int) - 1) = bb := ⟨_, rfl⟩
          rw [hbb] at hnb ⊢
          go_wp2_with fail
          go_roundw
          case rel => exact ⟨k + 1, _, ov4, sv4, hlt, by go_num, HC2.out, HOK4.out.more (by omega) (by omega), K4.out⟩
          case measure => simp [intOf]; omega
        · have hkn : 2 * n = k := by omega
          subst hkn
          have hge : ¬ ((2 * n : Nat) : Int) < 2 * (n : Int) := by omega
          have hall := HALL.out
          obtain ⟨tot, htot⟩ : ∃ tot, cborAll (headB 5 gr) 2 = tot := ⟨_, rfl⟩
          have hca := fun W => cborAll_any (bytesOf (headB 5 gr)) 2 W (by rw [bytesOf_size]; have := headB_len 5 gr; omega)
          rw [bytesOf_list, htot] at hca
          rw [htot] at hall
          have HCA := Lib.hid hca
          have HTOT := Lib.hid hall
          have HHD := Lib.hid (fun W => head_any 5 gr (by omega) HGR.out W)
          clear hall htot hca
          go_wp2_with fail
          refine (HHD.out wr).mono ?_
          rintro e w4 ⟨rfl, k4⟩
          have K4 := Lib.hid (HK.out.trans k4)
          clear k4
          go_wp2_with fail
          refine (HCA.out w4).mono ?_
          rintro e w5 ⟨v5, rfl, hown, k5⟩
          obtain ⟨a5, c5, rfl⟩ := hown.shape
          have K5 := Lib.hid (K4.out.trans k5)
          have htot := HTOT.out
          clear hown k5
          obtain ⟨ee, hee⟩ : ∃ ee, tot.2 = ee := ⟨_, rfl⟩
          rw [hee] at htot
          rw [hee]
          clear hee
          by_cases hg0 : gr = 0
          · subst hg0
            rw [if_pos rfl] at htot
            subst htot
            go_wp2_with fail
            go_ret
            exact ⟨rfl, K5.out⟩
          · have hgn : ((gr : Int) == 0) = false := by simp; omega
            rw [if_neg hg0] at htot
            by_cases hg1 : 1000000 < gr
            · rw [if_pos hg1] at htot
              subst htot
              have hg2 : (1000000 : Int) < (gr : Int) := by omega
              clear hg0 hg1
              go_wp2_with fail
              go_ret
              exact ⟨rfl, K5.out⟩
            · rw [if_neg hg1] at htot
              subst htot
              have hg2 : decide ((1000000 : Int) < (gr : Int)) = false := decide_eq_false (by omega)
              clear hg0 hg1
              go_wp2_with fail
              go_ret
              exact ⟨rfl, K5.out⟩

set_option maxHeartbeats 1600000 in
set_option maxRecDepth 100000 in
theorem cborinCounts_walk (a : Int) (m : Bool) (g : Int) (w : World) (ha : -9223372036854775808 ≤ a ∧ a ≤ 9223372036854775807) (hg : 0 ≤ g ∧ g ≤ 18446744073709551615) :
    Calls Try.prog 10 #[.int .i64 a, .bool m, .int .u64 g] w fun r w' => r = .returned (.bool true) ∧ Below w.heap.size w w' := by
  refine Calls.mono (R := fun r w' => r = .returned (.bool true) ∧ Keeps [] w w') ?_ (fun r w' h => ⟨h.1, h.2.all⟩)
  by_cases hlong : a < 0 ∨ ¬ a < 0 ∧ 40 < a
  · rcases hlong with h | ⟨h, h'⟩
    all_goals
      go_enter Try.func10, Try.ntmps10
      go_wp2_with fail
      refine (calive_any w).mono ?_
      rintro e w1 ⟨rfl, k1⟩
      have K1 := Lib.hid k1
      clear k1
      go_wp2_with fail
      go_ret
      exact ⟨rfl, K1.out⟩
  obtain ⟨n, rfl⟩ : ∃ n : Nat, a = n := ⟨a.toNat, by omega⟩
  obtain ⟨gr, rfl⟩ : ∃ gr : Nat, g = gr := ⟨g.toNat, by omega⟩
  cases m
  · exact cnt_false n (by omega) gr (by omega) w
  · exact cnt_true n (by omega) gr (by omega) w
end Go.Proofs.Ytepajbimhpmpjaa
