/-
  PackinTexts' walk.
-/
import Derived.Test.YtmcbdkhlbmhfeaaPackStepped
import Derived.Test.YtmcbdkhlbmhfeaaPackTextPlain
import Derived.Test.YtmcbdkhlbmhfeaaFill
import Derived.Test.YtmcbdkhlbmhfeaaWrPlainP
import Derived.Test.YtmcbdkhlbmhfeaaWr
import Derived.Deep.QuietTactic
import Derived.BigQuiet
namespace Go.Proofs.Ytmcbdkhlbmhfeaa
open Go.RowKit Go.Tru

def FillRel (n : Nat) (c : UInt8) (g : Nat) (w : World) (i : Value) (wr : World) : Prop :=
  ∃ k : Nat, k ≤ n ∧ i = .int .i64 k ∧ Has wr g (byteVals (List.replicate k c ++ List.replicate (n - k) 0)) 5 ∧ Keeps [] w wr

/-- so many bytes have been stepped -/
def TxRel (t : Bool) (n : Nat) (c : UInt8) (g : Nat) (w : World) (i : Value) (wr : World) : Prop :=
  ∃ (k : Nat) (p : Pk) (ov sv : Value), k ≤ pMore t n + 1 + n ∧ (200 < n → k ≤ pMore t n) ∧ i = .int .i64 k ∧ PxSt t n c k p ∧ PkOk k wr g g ov sv p ∧ Keeps [] w wr

set_option maxHeartbeats 3200000 in
set_option maxRecDepth 100000 in
theorem texts_false (n : Nat) (hn : n ≤ 300) (c : UInt8) (hc : (c.toNat : Int) < 128) (w : World) :
    Calls Try.prog 6 #[.int .i64 n, .int .u8 (c.toNat : Int), .bool false] w fun r w' => r = .returned (.bool true) ∧ Keeps [] w w' := by
  obtain ⟨x, hx⟩ : ∃ x : Int, (c.toNat : Int) = x := ⟨_, rfl⟩
  rw [hx]
  have h1 : ¬ (n : Int) < 0 := by omega
  have h2 : ¬ 300 < (n : Int) := by omega
  have h3 : ¬ 128 ≤ x := by omega
  have HX := Lib.hid hx
  have HN := Lib.hid hn
  have HC := Lib.hid hc
  clear hx hn hc
  go_enter Try.func6, Try.ntmps6
  go_wp2_with fail
  refine (palive_any w).mono ?_
  rintro e w1 ⟨rfl, k1⟩
  have K1 := Lib.hid k1
  clear k1
  go_wp2_with fail
  obtain ⟨w2, hmk, hnew, k2⟩ := make_bytes_any n (by have := HN.out; omega) w1
  rw [hmk]
  have HNEW := Lib.hid hnew
  have K2 := Lib.hid (K1.out.trans k2)
  have hz2 := hnew.lt
  have z1 := K1.out.size
  clear hmk hnew k2
  go_wp2_with fail
  go_loopw [37] (fun i wr => FillRel n c w1.heap.size w i wr) (fun i _ => 400 - (intOf i).toNat)
  case atStart => exact ⟨0, Nat.zero_le _, rfl, by simpa using HNEW.out, K2.out⟩
  case round =>
    obtain ⟨k, hk, rfl, hhas, hK⟩ := hrel
    have hbl := hhas.lt
    have HK := Lib.hid hK
    clear hK
    have hn3 := HN.out
    by_cases hlt : k < n
    · have hki : (k : Int) < (n : Int) := by omega
      have hcell : wr.cell? ⟨w1.heap.size, k, none⟩ = some (.int .u8 0) := by rw [hhas.cell, fill_get n k c hlt]
      have hfree := hhas.free k
      have hset := hhas.set k (.int .u8 (c.toNat : Int))
      rw [fill_set n k c hlt, HX.out] at hset
      have HSET := Lib.hid hset
      clear hhas hset
      go_wp2_with fail
      go_roundw
      case rel => exact ⟨k + 1, by omega, by go_num, HSET.out, HK.out.setCell (Or.inr z1) _⟩
      case measure => simp [intOf]; omega
    · have hkn : n = k := by omega
      subst hkn
      have hge : ¬ (n : Int) < (n : Int) := by omega
      have hin : OwnsBytes wr w1.heap.size (.slice (some ⟨w1.heap.size, 0, none⟩) n n) (List.replicate n c) := by
        have e : byteVals (List.replicate n c ++ List.replicate (n - n) 0) = byteVals (List.replicate n c) := by simp
        rw [e] at hhas
        have h := ownsRow_lit hhas (Nat.le_refl _) (n := n) (size := 1) (by simp [byteVals]) (by unfold maxLen; omega)
        unfold OwnsBytes
        rw [List.length_replicate]
        exact h
      have HIN := Lib.hid hin
      obtain ⟨wo, rfl⟩ : ∃ wo : World, wo = wr := ⟨_, rfl⟩
      clear hhas hin
      go_wp2_with fail
      refine (pnew_yes 3 (by omega) wo).mono ?_
      rintro e w3 ⟨rfl, hin3, k3⟩
      have HIN3 := Lib.hid hin3
      have K3 := Lib.hid (HK.out.trans k3)
      have z3 := k3.size
      have z0 := HK.out.size
      have hconv := bytes_string (ownsRow_keeps HIN.out k3 (by simp)) Try.underlying40 Try.underlying9
      obtain ⟨tx, htx⟩ : ∃ tx, bytesOf (List.replicate n c) = tx := ⟨_, rfl⟩
      rw [htx] at hconv
      have HTX := Lib.hid htx
      clear hin3 k3 htx
      go_wp2_with fail
      have hts : tx.size = n := by rw [← HTX.out, bytesOf_sz, List.length_replicate]
      have htl : tx.data.toList = List.replicate n c := by rw [← HTX.out]; simp [bytesOf]
      have hpl : ∀ W, Calls Try.prog 24 #[.int .i64 3, (evText tx).val] W fun r w' => r = .returned (.tuple #[.string (bytesOf (pHead true n ++ List.replicate n c)), .int .i64 0]) ∧ Keeps [] W w' := fun W => by
        have h := plainP_text tx (by have := HN.out; omega) W
        rw [cat_bytes, hts, htl] at h
        exact h
      have hln : (pHead true n ++ List.replicate n c).length = pMore true n + 1 + n := by rw [List.length_append, px_len, List.length_replicate]
      have hm2 : pMore true n ≤ 2 := pMore_le _ _
      obtain ⟨l, hl⟩ : ∃ l, pHead true n ++ List.replicate n c = l := ⟨_, rfl⟩
      rw [hl] at hpl hln
      have hwr : WrIn ((w3.alloc (.cells #[.int .i64 3, .bool false, .int .u64 0, .string tx, .int .i64 0] 35)).alloc (.cells #[.int .i64 3, .slice none 0 0, .bool false] 29)) (w3.heap.size + 1) (w3.heap.size + 1) 3 (.slice none 0 0) [] false := ⟨Has.new' (w3.alloc _) _ _ (by simp), OwnsStk.nil _ _ _, by simp [blks_nil]⟩
      have hst := wstep_leaf0 (to := 3) (Or.inr rfl) (evText tx) (by show (0 : Int) ≤ 3 ∧ (3 : Int) ≤ 4; decide) (bs := bytesOf l) (by rw [bytesOf_sz, hln]; have := HN.out; omega) hpl hwr
      have HL := Lib.hid hl
      have HLN := Lib.hid hln
      have HST := Lib.hid hst
      have HM2 := Lib.hid hm2
      clear hpl hwr hst hts htl hl hln hconv hm2
      refine HST.out.mono ?_
      rintro e w5 ⟨rfl, ov5, hwr5, kk5, _⟩
      have K5 := Lib.hid (((K3.out.alloc (.cells #[.int .i64 3, .bool false, .int .u64 0, .string tx, .int .i64 0] 35)).alloc (.cells #[.int .i64 3, .slice none 0 0, .bool false] 29)).trans' kk5 (fun i hi => Or.inr (by
        rw [blks_nil] at hi
        rw [List.mem_singleton] at hi
        omega)))
      have hlt3 := coBlks_lt HIN3.out
      have HIN5 := Lib.hid ((CoreIn.keep0 HIN3.out (((Keeps.refl [] w3).alloc (.cells #[.int .i64 3, .bool false, .int .u64 0, .string tx, .int .i64 0] 35)).alloc (.cells #[.int .i64 3, .slice none 0 0, .bool false] 29))).keeps kk5 (fun i hi hm => by
        have := hlt3 i hi
        rw [blks_nil, List.mem_singleton] at hm
        omega))
      have z5 := HIN5.out.blk.lt
      clear hwr5 kk5 hlt3 HST
      obtain ⟨s, hs⟩ : ∃ s, bytesOf l = s := ⟨_, rfl⟩
      have hsl : s.data.toList = l := by rw [← hs]; simp [bytesOf]
      have hsz : s.size = pMore true n + 1 + n := by rw [← hs, bytesOf_sz]; exact HLN.out
      rw [hs]
      have HSL := Lib.hid hsl
      have HSZ := Lib.hid hsz
      clear hs hsl hsz
      go_wp2_with fail
      go_loopw [14] (fun i wr => TxRel true n c wo.heap.size w i wr) (fun i _ => 1000 - (intOf i).toNat)
      case atStart => exact ⟨0, _, _, _, Nat.zero_le _, fun _ => Nat.zero_le _, rfl, Or.inl ⟨rfl, rfl⟩, ⟨HIN5.out, Pk.fit_new (by omega), by omega, by omega⟩, K5.out⟩
      case round =>
        obtain ⟨k, p, ov, sv, hk, hk200, rfl, htx, hok, hK⟩ := hrel
        have HOK := Lib.hid hok
        have HK2 := Lib.hid hK
        have HTS := Lib.hid htx
        clear hok hK htx
        have hm2 := HM2.out
        have hn3 := HN.out
        have hsz := HSZ.out
        have zz : w.heap.size ≤ wo.heap.size := z0
        by_cases hlt : k < s.size
        · obtain ⟨y, hyy⟩ : ∃ y : Int, (s[k].toNat : Int) = y := ⟨_, rfl⟩
          have hy0 : 0 ≤ y := by omega
          have hy1 : y ≤ 255 := by have := s[k].toNat_lt; omega
          have hkl : k < s.data.toList.length := by rw [Array.length_toList]; exact hlt
          have hget : (pHead true n ++ List.replicate n c)[k]? = some s.data.toList[k] := by rw [HL.out, ← HSL.out, List.getElem?_eq_getElem hkl]
          obtain ⟨st1, st2⟩ := px_step (by omega) HC.out HTS.out _ hget
          have hyl : ((s.data.toList[k]).toNat : Int) = y := by rw [← hyy]; rfl
          rw [HX.out] at *
          rw [hyl] at st1 st2
          have hstep := pstepped HOK.out y hy0 hy1 zz HK2.out (by omega)
          clear hget hyl
          by_cases h200 : n ≤ 200
          · obtain ⟨s1, s2, s3, s4⟩ := st1 h200
            have hn2 : ¬ 200 < (n : Int) := by omega
            rw [s1] at hstep
            have HSTEP := Lib.hid hstep
            have S4 := Lib.hid s4
            have S3 := Lib.hid s3
            clear st1 st2 hstep s1 s4 s3
            by_cases hlast : k + 1 = pMore true n + 1 + n
            · rw [if_pos hlast] at s2
              have hkb : ((k : Int) == (s.size : Int) - 1) = true := by simp; omega
              have hl1 : (p.step y).1.length = 1 := by omega
              have HL1 := Lib.hid hl1
              clear s2 hl1
              go_wp2_with fail
              refine HSTEP.out.mono ?_
              rintro e w6 ⟨v6, ov6, sv6, rfl, hown6, hok6, k6, z6⟩
              obtain ⟨a6, c6, rfl⟩ := hown6.shape
              rw [HL1.out]
              have hheld := pheld_any hok6
              rw [S3.out, if_pos hlast] at hheld
              have HHELD := Lib.hid hheld
              have HOK6 := Lib.hid hok6
              have K6 := Lib.hid k6
              clear hown6 hok6 k6 hheld
              go_wp2_with fail
              refine HHELD.out.mono ?_
              rintro e w7 ⟨rfl, k7⟩
              have HOK7 := Lib.hid (show PkOk ((k : Int) + 1) w7 wo.heap.size wo.heap.size ov6 sv6 (p.step y).2 from ⟨CoreIn.keep0 HOK6.out.in_ k7, HOK6.out.fit, HOK6.out.big, Nat.le_trans HOK6.out.base_ k7.size⟩)
              have K7 := Lib.hid (K6.out.trans k7)
              clear k7
              go_wp2_with fail
              go_roundw
              case rel => exact ⟨k + 1, _, ov6, sv6, by omega, fun h => by omega, by go_num, S4.out, HOK7.out, K7.out⟩
              case measure => simp [intOf]; omega
            · rw [if_neg hlast] at s2
              have hkb : ((k : Int) == (s.size : Int) - 1) = false := by simp; omega
              have hl1 : (p.step y).1.length = 0 := by omega
              have HL1 := Lib.hid hl1
              clear s2 hl1
              go_wp2_with fail
              refine HSTEP.out.mono ?_
              rintro e w6 ⟨v6, ov6, sv6, rfl, hown6, hok6, k6, z6⟩
              obtain ⟨a6, c6, rfl⟩ := hown6.shape
              rw [HL1.out]
              have hheld := pheld_any hok6
              rw [S3.out, if_neg hlast] at hheld
              obtain ⟨hv, hhv⟩ : ∃ hv : Int, ((k - pMore true n : Nat) : Int) = hv := ⟨_, rfl⟩
              rw [hhv] at hheld
              have HHV := Lib.hid hhv
              have HHELD := Lib.hid hheld
              have HOK6 := Lib.hid hok6
              have K6 := Lib.hid k6
              clear hown6 hok6 k6 hheld hhv
              go_wp2_with fail
              all_goals
                refine HHELD.out.mono ?_
                rintro e w7 ⟨rfl, k7⟩
                have HOK7 := Lib.hid (show PkOk ((k : Int) + 1) w7 wo.heap.size wo.heap.size ov6 sv6 (p.step y).2 from ⟨CoreIn.keep0 HOK6.out.in_ k7, HOK6.out.fit, HOK6.out.big, Nat.le_trans HOK6.out.base_ k7.size⟩)
                have K7 := Lib.hid (K6.out.trans k7)
                have hhv := HHV.out
                try have hq1 : (hv != (k : Int) + 1 - ((pMore true n : Int) + 1)) = false := by simp; omega
                try have hq2 : (hv != 0) = false := by simp; omega
                clear k7 hhv
                go_wp2_with fail
                go_roundw
                case rel => exact ⟨k + 1, _, ov6, sv6, by omega, fun h => by omega, by go_num, S4.out, HOK7.out, K7.out⟩
                case measure => simp [intOf]; omega
          · obtain ⟨r1, r2⟩ := st2 (by omega)
            have hn2 : 200 < (n : Int) := by omega
            have hk2 := hk200 (by omega)
            clear st1 st2
            by_cases hlast : k < pMore true n
            · obtain ⟨r3, r4⟩ := r1 hlast
              rw [r3] at hstep
              have HSTEP := Lib.hid hstep
              have R4 := Lib.hid r4
              clear hstep r1 r2 r3 r4
              go_wp2_with fail
              refine HSTEP.out.mono ?_
              rintro e w6 ⟨v6, ov6, sv6, rfl, hown6, hok6, k6, z6⟩
              obtain ⟨a6, c6, rfl⟩ := hown6.shape
              have HOK6 := Lib.hid hok6
              have K6 := Lib.hid k6
              clear hown6 hok6 k6
              go_wp2_with fail
              go_roundw
              case rel => exact ⟨k + 1, _, ov6, sv6, by omega, fun _ => by omega, by go_num, R4.out, HOK6.out, K6.out⟩
              case measure => simp [intOf]; omega
            · obtain ⟨r3, r4⟩ := r2 (by omega)
              rw [r3, r4] at hstep
              have HSTEP := Lib.hid hstep
              have hkq : ((k : Int) == (s.size : Int) - (n : Int) - 1) = true := by simp; omega
              have hkq2 : ((k : Int) == (pMore true n : Int)) = true := by simp; omega
              clear hstep r1 r2 r3 r4
              go_wp2_with fail
              refine HSTEP.out.mono ?_
              rintro e w6 ⟨v6, ov6, sv6, rfl, hown6, hok6, k6, z6⟩
              obtain ⟨a6, c6, rfl⟩ := hown6.shape
              have K6 := Lib.hid k6
              clear hown6 hok6 k6
              simp only [List.length_nil]
              go_wp2_with fail
              go_ret
              exact ⟨rfl, K6.out⟩
        · have hks : k = pMore true n + 1 + n := by omega
          have h200 : n ≤ 200 := by
            by_cases h : 200 < n
            · have := hk200 h; omega
            · omega
          have hdn : p.c.e = 0 ∧ p.c.done = true := by
            rcases HTS.out with ⟨h0, _⟩ | ⟨_, h1, _⟩ | ⟨j, h1, h2, _⟩ | ⟨_, _, h1, h2, _⟩
            · omega
            · omega
            · omega
            · exact ⟨h1, h2⟩
          have hdone := pdone_any HOK.out.in_
          rw [hdn.1, hdn.2] at hdone
          simp only [decide_true, Bool.true_and] at hdone
          have HDONE := Lib.hid hdone
          have hkg : ¬ (k : Int) < (s.size : Int) := by omega
          have hn2 : (n : Int) ≤ 200 := by omega
          clear hdone hdn
          go_wp2_with fail
          refine HDONE.out.mono ?_
          rintro e w6 ⟨rfl, rfl⟩
          go_wp2_with fail
          go_ret
          exact ⟨rfl, HK2.out⟩

set_option maxHeartbeats 3200000 in
set_option maxRecDepth 100000 in
theorem texts_true (n : Nat) (hn : n ≤ 300) (c : UInt8) (hc : (c.toNat : Int) < 128) (w : World) :
    Calls Try.prog 6 #[.int .i64 n, .int .u8 (c.toNat : Int), .bool true] w fun r w' => r = .returned (.bool true) ∧ Keeps [] w w' := by
  obtain ⟨x, hx⟩ : ∃ x : Int, (c.toNat : Int) = x := ⟨_, rfl⟩
  rw [hx]
  have h1 : ¬ (n : Int) < 0 := by omega
  have h2 : ¬ 300 < (n : Int) := by omega
  have h3 : ¬ 128 ≤ x := by omega
  have HX := Lib.hid hx
  have HN := Lib.hid hn
  have HC := Lib.hid hc
  clear hx hn hc
  go_enter Try.func6, Try.ntmps6
  go_wp2_with fail
  refine (palive_any w).mono ?_
  rintro e w1 ⟨rfl, k1⟩
  have K1 := Lib.hid k1
  clear k1
  go_wp2_with fail
  obtain ⟨w2, hmk, hnew, k2⟩ := make_bytes_any n (by have := HN.out; omega) w1
  rw [hmk]
  have HNEW := Lib.hid hnew
  have K2 := Lib.hid (K1.out.trans k2)
  have hz2 := hnew.lt
  have z1 := K1.out.size
  clear hmk hnew k2
  go_wp2_with fail
  go_loopw [37] (fun i wr => FillRel n c w1.heap.size w i wr) (fun i _ => 400 - (intOf i).toNat)
  case atStart => exact ⟨0, Nat.zero_le _, rfl, by simpa using HNEW.out, K2.out⟩
  case round =>
    obtain ⟨k, hk, rfl, hhas, hK⟩ := hrel
    have hbl := hhas.lt
    have HK := Lib.hid hK
    clear hK
    have hn3 := HN.out
    by_cases hlt : k < n
    · have hki : (k : Int) < (n : Int) := by omega
      have hcell : wr.cell? ⟨w1.heap.size, k, none⟩ = some (.int .u8 0) := by rw [hhas.cell, fill_get n k c hlt]
      have hfree := hhas.free k
      have hset := hhas.set k (.int .u8 (c.toNat : Int))
      rw [fill_set n k c hlt, HX.out] at hset
      have HSET := Lib.hid hset
      clear hhas hset
      go_wp2_with fail
      go_roundw
      case rel => exact ⟨k + 1, by omega, by go_num, HSET.out, HK.out.setCell (Or.inr z1) _⟩
      case measure => simp [intOf]; omega
    · have hkn : n = k := by omega
      subst hkn
      have hge : ¬ (n : Int) < (n : Int) := by omega
      have hin : OwnsBytes wr w1.heap.size (.slice (some ⟨w1.heap.size, 0, none⟩) n n) (List.replicate n c) := by
        have e : byteVals (List.replicate n c ++ List.replicate (n - n) 0) = byteVals (List.replicate n c) := by simp
        rw [e] at hhas
        have h := ownsRow_lit hhas (Nat.le_refl _) (n := n) (size := 1) (by simp [byteVals]) (by unfold maxLen; omega)
        unfold OwnsBytes
        rw [List.length_replicate]
        exact h
      have HIN := Lib.hid hin
      obtain ⟨wo, rfl⟩ : ∃ wo : World, wo = wr := ⟨_, rfl⟩
      clear hhas hin
      go_wp2_with fail
      refine (pnew_yes 3 (by omega) wo).mono ?_
      rintro e w3 ⟨rfl, hin3, k3⟩
      have HIN3 := Lib.hid hin3
      have K3 := Lib.hid (HK.out.trans k3)
      have z3 := k3.size
      have z0 := HK.out.size
      have hconv := bytes_string (ownsRow_keeps HIN.out k3 (by simp)) Try.underlying40 Try.underlying9
      obtain ⟨tx, htx⟩ : ∃ tx, bytesOf (List.replicate n c) = tx := ⟨_, rfl⟩
      rw [htx] at hconv
      have HTX := Lib.hid htx
      clear hin3 k3 htx
      go_wp2_with fail
      have hts : tx.size = n := by rw [← HTX.out, bytesOf_sz, List.length_replicate]
      have htl : tx.data.toList = List.replicate n c := by rw [← HTX.out]; simp [bytesOf]
      have hpl : ∀ W, Calls Try.prog 24 #[.int .i64 3, (evBytes tx).val] W fun r w' => r = .returned (.tuple #[.string (bytesOf (pHead false n ++ List.replicate n c)), .int .i64 0]) ∧ Keeps [] W w' := fun W => by
        have h := plainP_bytes tx (by have := HN.out; omega) W
        rw [cat_bytes, hts, htl] at h
        exact h
      have hln : (pHead false n ++ List.replicate n c).length = pMore false n + 1 + n := by rw [List.length_append, px_len, List.length_replicate]
      have hm2 : pMore false n ≤ 2 := pMore_le _ _
      obtain ⟨l, hl⟩ : ∃ l, pHead false n ++ List.replicate n c = l := ⟨_, rfl⟩
      rw [hl] at hpl hln
      have hwr : WrIn ((w3.alloc (.cells #[.int .i64 4, .bool false, .int .u64 0, .string tx, .int .i64 0] 35)).alloc (.cells #[.int .i64 3, .slice none 0 0, .bool false] 29)) (w3.heap.size + 1) (w3.heap.size + 1) 3 (.slice none 0 0) [] false := ⟨Has.new' (w3.alloc _) _ _ (by simp), OwnsStk.nil _ _ _, by simp [blks_nil]⟩
      have hst := wstep_leaf0 (to := 3) (Or.inr rfl) (evBytes tx) (by show (0 : Int) ≤ 4 ∧ (4 : Int) ≤ 4; decide) (bs := bytesOf l) (by rw [bytesOf_sz, hln]; have := HN.out; omega) hpl hwr
      have HL := Lib.hid hl
      have HLN := Lib.hid hln
      have HST := Lib.hid hst
      have HM2 := Lib.hid hm2
      clear hpl hwr hst hts htl hl hln hconv hm2
      refine HST.out.mono ?_
      rintro e w5 ⟨rfl, ov5, hwr5, kk5, _⟩
      have K5 := Lib.hid (((K3.out.alloc (.cells #[.int .i64 4, .bool false, .int .u64 0, .string tx, .int .i64 0] 35)).alloc (.cells #[.int .i64 3, .slice none 0 0, .bool false] 29)).trans' kk5 (fun i hi => Or.inr (by
        rw [blks_nil] at hi
        rw [List.mem_singleton] at hi
        omega)))
      have hlt3 := coBlks_lt HIN3.out
      have HIN5 := Lib.hid ((CoreIn.keep0 HIN3.out (((Keeps.refl [] w3).alloc (.cells #[.int .i64 4, .bool false, .int .u64 0, .string tx, .int .i64 0] 35)).alloc (.cells #[.int .i64 3, .slice none 0 0, .bool false] 29))).keeps kk5 (fun i hi hm => by
        have := hlt3 i hi
        rw [blks_nil, List.mem_singleton] at hm
        omega))
      have z5 := HIN5.out.blk.lt
      clear hwr5 kk5 hlt3 HST
      obtain ⟨s, hs⟩ : ∃ s, bytesOf l = s := ⟨_, rfl⟩
      have hsl : s.data.toList = l := by rw [← hs]; simp [bytesOf]
      have hsz : s.size = pMore false n + 1 + n := by rw [← hs, bytesOf_sz]; exact HLN.out
      rw [hs]
      have HSL := Lib.hid hsl
      have HSZ := Lib.hid hsz
      clear hs hsl hsz
      go_wp2_with fail
      go_loopw [14] (fun i wr => TxRel false n c wo.heap.size w i wr) (fun i _ => 1000 - (intOf i).toNat)
      case atStart => exact ⟨0, _, _, _, Nat.zero_le _, fun _ => Nat.zero_le _, rfl, Or.inl ⟨rfl, rfl⟩, ⟨HIN5.out, Pk.fit_new (by omega), by omega, by omega⟩, K5.out⟩
      case round =>
        obtain ⟨k, p, ov, sv, hk, hk200, rfl, htx, hok, hK⟩ := hrel
        have HOK := Lib.hid hok
        have HK2 := Lib.hid hK
        have HTS := Lib.hid htx
        clear hok hK htx
        have hm2 := HM2.out
        have hn3 := HN.out
        have hsz := HSZ.out
        have zz : w.heap.size ≤ wo.heap.size := z0
        by_cases hlt : k < s.size
        · obtain ⟨y, hyy⟩ : ∃ y : Int, (s[k].toNat : Int) = y := ⟨_, rfl⟩
          have hy0 : 0 ≤ y := by omega
          have hy1 : y ≤ 255 := by have := s[k].toNat_lt; omega
          have hkl : k < s.data.toList.length := by rw [Array.length_toList]; exact hlt
          have hget : (pHead false n ++ List.replicate n c)[k]? = some s.data.toList[k] := by rw [HL.out, ← HSL.out, List.getElem?_eq_getElem hkl]
          obtain ⟨st1, st2⟩ := px_step (by omega) HC.out HTS.out _ hget
          have hyl : ((s.data.toList[k]).toNat : Int) = y := by rw [← hyy]; rfl
          rw [HX.out] at *
          rw [hyl] at st1 st2
          have hstep := pstepped HOK.out y hy0 hy1 zz HK2.out (by omega)
          clear hget hyl
          by_cases h200 : n ≤ 200
          · obtain ⟨s1, s2, s3, s4⟩ := st1 h200
            have hn2 : ¬ 200 < (n : Int) := by omega
            rw [s1] at hstep
            have HSTEP := Lib.hid hstep
            have S4 := Lib.hid s4
            have S3 := Lib.hid s3
            clear st1 st2 hstep s1 s4 s3
            by_cases hlast : k + 1 = pMore false n + 1 + n
            · rw [if_pos hlast] at s2
              have hkb : ((k : Int) == (s.size : Int) - 1) = true := by simp; omega
              have hl1 : (p.step y).1.length = 1 := by omega
              have HL1 := Lib.hid hl1
              clear s2 hl1
              go_wp2_with fail
              refine HSTEP.out.mono ?_
              rintro e w6 ⟨v6, ov6, sv6, rfl, hown6, hok6, k6, z6⟩
              obtain ⟨a6, c6, rfl⟩ := hown6.shape
              rw [HL1.out]
              have hheld := pheld_any hok6
              rw [S3.out, if_pos hlast] at hheld
              have HHELD := Lib.hid hheld
              have HOK6 := Lib.hid hok6
              have K6 := Lib.hid k6
              clear hown6 hok6 k6 hheld
              go_wp2_with fail
              refine HHELD.out.mono ?_
              rintro e w7 ⟨rfl, k7⟩
              have HOK7 := Lib.hid (show PkOk ((k : Int) + 1) w7 wo.heap.size wo.heap.size ov6 sv6 (p.step y).2 from ⟨CoreIn.keep0 HOK6.out.in_ k7, HOK6.out.fit, HOK6.out.big, Nat.le_trans HOK6.out.base_ k7.size⟩)
              have K7 := Lib.hid (K6.out.trans k7)
              clear k7
              go_wp2_with fail
              go_roundw
              case rel => exact ⟨k + 1, _, ov6, sv6, by omega, fun h => by omega, by go_num, S4.out, HOK7.out, K7.out⟩
              case measure => simp [intOf]; omega
            · rw [if_neg hlast] at s2
              have hkb : ((k : Int) == (s.size : Int) - 1) = false := by simp; omega
              have hl1 : (p.step y).1.length = 0 := by omega
              have HL1 := Lib.hid hl1
              clear s2 hl1
              go_wp2_with fail
              refine HSTEP.out.mono ?_
              rintro e w6 ⟨v6, ov6, sv6, rfl, hown6, hok6, k6, z6⟩
              obtain ⟨a6, c6, rfl⟩ := hown6.shape
              rw [HL1.out]
              have hheld := pheld_any hok6
              rw [S3.out, if_neg hlast] at hheld
              obtain ⟨hv, hhv⟩ : ∃ hv : Int, ((k - pMore false n : Nat) : Int) = hv := ⟨_, rfl⟩
              rw [hhv] at hheld
              have HHV := Lib.hid hhv
              have HHELD := Lib.hid hheld
              have HOK6 := Lib.hid hok6
              have K6 := Lib.hid k6
              clear hown6 hok6 k6 hheld hhv
              go_wp2_with fail
              all_goals
                refine HHELD.out.mono ?_
                rintro e w7 ⟨rfl, k7⟩
                have HOK7 := Lib.hid (show PkOk ((k : Int) + 1) w7 wo.heap.size wo.heap.size ov6 sv6 (p.step y).2 from ⟨CoreIn.keep0 HOK6.out.in_ k7, HOK6.out.fit, HOK6.out.big, Nat.le_trans HOK6.out.base_ k7.size⟩)
                have K7 := Lib.hid (K6.out.trans k7)
                have hhv := HHV.out
                try have hq1 : (hv != (k : Int) + 1 - ((pMore false n : Int) + 1)) = false := by simp; omega
                try have hq2 : (hv != 0) = false := by simp; omega
                clear k7 hhv
                go_wp2_with fail
                go_roundw
                case rel => exact ⟨k + 1, _, ov6, sv6, by omega, fun h => by omega, by go_num, S4.out, HOK7.out, K7.out⟩
                case measure => simp [intOf]; omega
          · obtain ⟨r1, r2⟩ := st2 (by omega)
            have hn2 : 200 < (n : Int) := by omega
            have hk2 := hk200 (by omega)
            clear st1 st2
            by_cases hlast : k < pMore false n
            · obtain ⟨r3, r4⟩ := r1 hlast
              rw [r3] at hstep
              have HSTEP := Lib.hid hstep
              have R4 := Lib.hid r4
              clear hstep r1 r2 r3 r4
              go_wp2_with fail
              refine HSTEP.out.mono ?_
              rintro e w6 ⟨v6, ov6, sv6, rfl, hown6, hok6, k6, z6⟩
              obtain ⟨a6, c6, rfl⟩ := hown6.shape
              have HOK6 := Lib.hid hok6
              have K6 := Lib.hid k6
              clear hown6 hok6 k6
              go_wp2_with fail
              go_roundw
              case rel => exact ⟨k + 1, _, ov6, sv6, by omega, fun _ => by omega, by go_num, R4.out, HOK6.out, K6.out⟩
              case measure => simp [intOf]; omega
            · obtain ⟨r3, r4⟩ := r2 (by omega)
              rw [r3, r4] at hstep
              have HSTEP := Lib.hid hstep
              have hkq : ((k : Int) == (s.size : Int) - (n : Int) - 1) = true := by simp; omega
              have hkq2 : ((k : Int) == (pMore false n : Int)) = true := by simp; omega
              clear hstep r1 r2 r3 r4
              go_wp2_with fail
              refine HSTEP.out.mono ?_
              rintro e w6 ⟨v6, ov6, sv6, rfl, hown6, hok6, k6, z6⟩
              obtain ⟨a6, c6, rfl⟩ := hown6.shape
              have K6 := Lib.hid k6
              clear hown6 hok6 k6
              simp only [List.length_nil]
              go_wp2_with fail
              go_ret
              exact ⟨rfl, K6.out⟩
        · have hks : k = pMore false n + 1 + n := by omega
          have h200 : n ≤ 200 := by
            by_cases h : 200 < n
            · have := hk200 h; omega
            · omega
          have hdn : p.c.e = 0 ∧ p.c.done = true := by
            rcases HTS.out with ⟨h0, _⟩ | ⟨_, h1, _⟩ | ⟨j, h1, h2, _⟩ | ⟨_, _, h1, h2, _⟩
            · omega
            · omega
            · omega
            · exact ⟨h1, h2⟩
          have hdone := pdone_any HOK.out.in_
          rw [hdn.1, hdn.2] at hdone
          simp only [decide_true, Bool.true_and] at hdone
          have HDONE := Lib.hid hdone
          have hkg : ¬ (k : Int) < (s.size : Int) := by omega
          have hn2 : (n : Int) ≤ 200 := by omega
          clear hdone hdn
          go_wp2_with fail
          refine HDONE.out.mono ?_
          rintro e w6 ⟨rfl, rfl⟩
          go_wp2_with fail
          go_ret
          exact ⟨rfl, HK2.out⟩

set_option maxHeartbeats 1600000 in
set_option maxRecDepth 100000 in
theorem packinTexts_walk (a x : Int) (by_ : Bool) (w : World) (ha : -9223372036854775808 ≤ a ∧ a ≤ 9223372036854775807) (hx : 0 ≤ x ∧ x ≤ 255) :
    Calls Try.prog 6 #[.int .i64 a, .int .u8 x, .bool by_] w fun r w' => r = .returned (.bool true) ∧ Below w.heap.size w w' := by
  refine Calls.mono (R := fun r w' => r = .returned (.bool true) ∧ Keeps [] w w') ?_ (fun r w' h => ⟨h.1, h.2.all⟩)
  by_cases hlong : a < 0 ∨ ¬ a < 0 ∧ 300 < a ∨ ¬ a < 0 ∧ ¬ 300 < a ∧ 128 ≤ x
  · rcases hlong with h | ⟨h, h'⟩ | ⟨h, h', h''⟩
    all_goals
      go_enter Try.func6, Try.ntmps6
      go_wp2_with fail
      refine (palive_any w).mono ?_
      rintro e w1 ⟨rfl, k1⟩
      have K1 := Lib.hid k1
      clear k1
      go_wp2_with fail
      go_ret
      exact ⟨rfl, K1.out⟩
  obtain ⟨n, rfl⟩ : ∃ n : Nat, a = n := ⟨a.toNat, by omega⟩
  obtain ⟨c, hc⟩ : ∃ c : UInt8, (c.toNat : Int) = x := ⟨UInt8.ofNat x.toNat, by simp; omega⟩
  rw [← hc]
  cases by_
  · exact texts_false n (by omega) c (by omega) w
  · exact texts_true n (by omega) c (by omega) w
end Go.Proofs.Ytmcbdkhlbmhfeaa
