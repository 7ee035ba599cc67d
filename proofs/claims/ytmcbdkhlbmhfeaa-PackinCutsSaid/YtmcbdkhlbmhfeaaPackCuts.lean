/-
  PackinCuts' walk.
-/
import Derived.Test.YtmcbdkhlbmhfeaaPackBk
namespace Go.Tru

/-- (a % z + z) % z as Go reckons it: a number from 0 to z less 1 -/
theorem mod_facts (a : Int) {z : Nat} (h : 0 < z) : -(z : Int) < a.tmod z ∧ a.tmod z < z ∧ ∃ j : Nat, a.tmod z % z = j ∧ j < z := by
  refine ⟨by have := Int.lt_tmod_of_pos a (b := (z : Int)) (by omega); omega, Int.tmod_lt_of_pos a (by omega), (a.tmod z % z).toNat, ?_, ?_⟩
  · have := Int.emod_nonneg (a.tmod z) (b := (z : Int)) (by omega); omega
  · have := Int.emod_nonneg (a.tmod z) (b := (z : Int)) (by omega); have := Int.emod_lt_of_pos (a.tmod z) (b := (z : Int)) (by omega); omega
end Go.Tru
namespace Go.Proofs.Ytmcbdkhlbmhfeaa
open Go.RowKit Go.Tru

set_option maxHeartbeats 3200000 in
set_option maxRecDepth 100000 in
theorem cuts_yes (o : Option Addr) (n c : Nat) (xs : List Int) (kk : Int) (y : UInt8) (w : World) (h : IntsIn w o n c xs) (hn : n ≤ 40) (hkk : -9223372036854775808 ≤ kk ∧ kk ≤ 9223372036854775807) :
    Calls Try.prog 4 #[.slice o n c, .int .i64 kk, .int .u8 (y.toNat : Int)] w fun r w' => r = .returned (.bool true) ∧ Keeps [] w w' := by
  obtain ⟨dep, hdep⟩ : ∃ dep : Nat, dep = 8 := ⟨8, rfl⟩
  have hd1 : 1 ≤ dep := by omega
  have hd2 : dep ≤ 16 := by omega
  have hback := back_all xs dep ⟨hd1, hd2⟩
  have hmore := more_all xs dep ⟨hd1, hd2⟩ y
  have hcut := cut_all xs dep ⟨hd1, hd2⟩
  have htr := doc_tr xs dep hd2
  have hdl : (doc xs dep).length ≤ 500 := by
    have h1 := docItem_len dep xs
    have h2 := h.len
    unfold doc
    omega
  have hds1 : 1 ≤ (doc xs dep).length := by
    have h1 := tr_end htr
    rcases hcase : doc xs dep with _ | ⟨e, r⟩
    · rw [hcase] at hback
      unfold packAll at hback
      rw [if_neg (by omega)] at hback
      have h3 := congrArg Prod.snd hback
      exact absurd h3 (by show ¬ (3 : Int) = 0; decide)
    · simp
  have i1 : ¬ 40 < (n : Int) := by omega
  have hbp : 1 ≤ (bytesP (doc xs dep)).length := by
    rcases Nat.eq_zero_or_pos (bytesP (doc xs dep)).length with h0 | h0
    · rw [List.length_eq_zero_iff.1 h0] at hback
      unfold packAll at hback
      rw [if_neg (by omega)] at hback
      have h3 := congrArg Prod.snd hback
      exact absurd h3 (by show ¬ (3 : Int) = 0; decide)
    · exact h0
  have HDOC := Lib.hid (fun W hW => doc_any o n c xs dep (by omega) (by omega) W hW)
  rw [hdep] at HDOC
  have H := Lib.hid h
  rw [hdep] at hback hmore hcut htr hdl hds1 hbp
  clear hdep hd1 hd2 dep
  generalize doc xs 8 = ds at hback hmore hcut htr hdl hds1 hbp HDOC
  have HMORE := Lib.hid hmore
  have HCUT := Lib.hid hcut
  have HBP := Lib.hid hbp
  have HBACK := Lib.hid hback
  have HTR := Lib.hid htr
  have HDL := Lib.hid hdl
  have HD1 := Lib.hid hds1
  have HKK := Lib.hid hkk
  clear h hback htr hdl hds1 hn hmore hcut hbp hkk
  go_enter Try.func4, Try.ntmps4
  go_wp2_with fail
  refine (palive_any w).mono ?_
  rintro e w1 ⟨rfl, k1⟩
  have K1 := Lib.hid k1
  clear k1
  go_wp2_with fail
  refine (HDOC.out _ (H.out.keeps K1.out)).mono ?_
  rintro e w2 ⟨v2, rfl, hown2, k2⟩
  obtain ⟨o3, c3, rfl, hin2⟩ := evsIn_of_owns hown2
  have K2 := Lib.hid (K1.out.trans k2)
  have HI2 := Lib.hid hin2
  have z2 := K2.out.size
  have hm2 := hin2.most
  have hr2 := hin2.room
  unfold maxLen at hm2
  clear hown2 hin2 k2
  go_wp2_with fail
  go_loopw [9, 31] (fun x i wr => BkRel ds w2.heap.size w2.heap.size o3 c3 w x i wr) (fun _ i _ => ds.length - (intOf i).toNat)
  case atStart =>
    refine ⟨0, .slice none 0 0, Nat.zero_le _, rfl, rfl, ⟨?_, OwnsStk.nil _ _ _, by simp [blks_nil]⟩, fun _ => rfl, HI2.out.keeps ((Keeps.refl [] w2).alloc _), by simp, K2.out.alloc _⟩
    have hdec : decide (0 = ds.length) = false := by have := HD1.out; simp; omega
    rw [hdec]
    exact Has.new' w2 _ _ rfl
  case round =>
    obtain ⟨k, ov, hk, rfl, rfl, hwr, hov, hin, hB, hK⟩ := hrel
    have hbl := hwr.blk.lt
    by_cases hlt : k < ds.length
    · obtain ⟨b1, f1, rfl, g0, g1, g2, g3, g4⟩ := hin.get hlt hlt
      have hget : ds[k]? = some ds[k] := List.getElem?_eq_getElem hlt
      obtain ⟨t1, t2, t3⟩ := tr_at HTR.out k _ hget
      have hdec : decide (k = ds.length) = false := by simp; omega
      rw [hdec] at hwr
      have hstep := wstepP t1 hwr (fun h0 => by
        rcases Nat.eq_zero_or_pos k with hk0 | hk0
        · exact hov hk0
        · have h1 := (tr_at HTR.out (k - 1) ds[k - 1] (List.getElem?_eq_getElem (by omega))).2.1 (by omega)
          rw [show k - 1 + 1 = k by omega, h0] at h1
          simp at h1) hB
      have hx1 : (bytesOf (bytesP (ds.take k))).size ≤ 20000 := by
        rw [bytesOf_sz]
        have := bytesP_take HTR.out k
        have := HDL.out
        omega
      have hx2 : (bytesOf (partP ds[k])).size ≤ 29 := by rw [bytesOf_sz]; exact partP_len t1
      have hcat := bytes_snoc (ds.take k) ds[k]
      have htk : ds.take k ++ [ds[k]] = ds.take (k + 1) := by rw [List.take_succ_eq_append_getElem hlt]
      rw [htk] at hcat
      rw [← t3] at hstep
      have hfin : (wAfter [] (ds.take (k + 1))).isEmpty = decide (k + 1 = ds.length) := by
        by_cases hl : k + 1 = ds.length
        · rw [hl, List.take_length, tr_end HTR.out]; simp
        · have := t2 (by omega)
          rcases hc : wAfter [] (ds.take (k + 1)) with _ | ⟨a, l⟩
          · rw [hc] at this; simp at this
          · simp [hl]
      rw [hfin] at hstep
      have HIN := Lib.hid hin
      have HK := Lib.hid hK
      have HST := Lib.hid hstep
      have HFB := Lib.hid hB
      have hblks : ∀ i ∈ blks ov, w2.heap.size ≤ i := fun i hi => (World.ownsRow.lt hwr.opn i (mem_blks.1 hi)).1
      have HBL := Lib.hid hblks
      have hb1 : b1 < w2.heap.size := by
        rcases HI2.out.at_ with h0 | ⟨b', off', e', hb', _⟩
        · have := HD1.out; omega
        · simp only [Option.some.injEq, Addr.mk.injEq] at e'
          omega
      have hi : (k : Int) < (ds.length : Int) := by omega
      have hsum : ¬ 281474976710656 < (bytesOf (bytesP (ds.take k))).size + (bytesOf (partP ds[k])).size := by omega
      obtain ⟨X, hX⟩ : ∃ X, bytesOf (bytesP (ds.take k)) = X := ⟨_, rfl⟩
      obtain ⟨Y, hY⟩ : ∃ Y, bytesOf (partP ds[k]) = Y := ⟨_, rfl⟩
      rw [hX, hY] at hcat hsum
      rw [hY] at HST
      have HX := Lib.hid hX
      rw [hX]
      generalize hae : ds[k] = p at g0 g1 g2 g3 g4 HST
      clear hae hin hK hstep hB hblks hwr hov hX hY hx1 hx2 t1 t2 t3 htk hfin hdec hget
      go_wp2_with fail
      refine HST.out.mono ?_
      rintro r w4 ⟨rfl, ov4, hwr4, k4, hb4⟩
      have HW4 := Lib.hid hwr4
      have HIN4 := Lib.hid (HIN.out.keepsF k4 (fun b' off' e1 hm => by
        simp only [Option.some.injEq, Addr.mk.injEq] at e1
        rcases List.mem_cons.1 hm with h | h
        · omega
        · have := HBL.out _ h; omega))
      have K4 := Lib.hid (HK.out.trans' k4 (fun i hi => Or.inr (by
        rcases List.mem_cons.1 hi with h | h
        · omega
        · have := HBL.out _ h; omega)))
      have hB4 := Lib.hid (Nat.le_trans HFB.out k4.size)
      clear hwr4 k4 hb4
      go_wp2_with fail
      go_roundw
      case rel => exact ⟨k + 1, ov4, by omega, by go_num, rfl, HW4.out, fun h => by omega, HIN4.out, hB4.out, K4.out⟩
      case measure => simp [intOf]; omega
    · have hke : k = ds.length := by omega
      subst hke
      have hge : ¬ (ds.length : Int) < (ds.length : Int) := by omega
      rw [List.take_length] at *
      have hsz : (bytesOf (bytesP ds)).size ≤ 1000000 := by
        rw [bytesOf_sz]
        have := bytesP_len HTR.out
        have := HDL.out
        omega
      obtain ⟨X, hX⟩ : ∃ X, bytesOf (bytesP ds) = X := ⟨_, rfl⟩
      have hXd : X.data.toList = bytesP ds := by rw [← hX]; exact bytesOf_list _
      have hXs : X.size = (bytesP ds).length := by rw [← hX]; exact bytesOf_sz _
      have hX1 : 1 ≤ X.size := by rw [hXs]; exact HBP.out
      rw [hX] at hsz ⊢
      have hkk := HKK.out
      obtain ⟨q1, q2, j, hj, hjX⟩ := mod_facts kk (z := X.size) (by omega)
      have hd0 : ((X.size : Int) == 0) = false := beq_eq_false_iff_ne.2 (by omega)
      have hpre := fun W => packAll_any (X.extract 0 j) 8 W (by simp [ByteArray.size_extract]; omega)
      have hcut2 := HCUT.out j (by rw [← hXs]; exact hjX)
      have hed : (X.extract 0 j).data.toList = (bytesP ds).take j := by rw [Lib.extract_data, hXd]; simp
      obtain ⟨es', hes⟩ : ∃ es', packAll ((bytesP ds).take j) 8 = (es', 3) := ⟨(packAll ((bytesP ds).take j) 8).1, by rw [← hcut2]; rfl⟩
      rw [hed, hes] at hpre
      have hconv := conv_one y
      obtain ⟨Y, hY⟩ : ∃ Y, bytesOf [y] = Y := ⟨_, rfl⟩
      have hYs : Y.size = 1 := by rw [← hY]; rfl
      obtain ⟨Z, hZ⟩ : ∃ Z, X ++ Y = Z := ⟨_, rfl⟩
      have hZd : Z.data.toList = bytesP ds ++ [y] := by
        rw [← hZ, ByteArray.data_append, Array.toList_append, hXd, ← hY, bytesOf_list]
      have hZs : Z.size ≤ 1000000 := by rw [← hZ, ByteArray.size_append, hYs]; have := bytesP_len HTR.out; have := HDL.out; omega
      have hall := fun W => packAll_any Z 8 W hZs
      have hm2 := HMORE.out
      rw [hZd] at hall
      rw [show ((8 : Nat) : Int) = 8 from rfl] at hm2
      rw [hm2] at hall
      have hsum : ¬ 281474976710656 < X.size + Y.size := by rw [hYs]; omega
      obtain ⟨yi, hyi⟩ : ∃ yi : Int, (y.toNat : Int) = yi := ⟨_, rfl⟩
      rw [hY] at hconv
      rw [hyi] at hconv ⊢
      have HALL := Lib.hid hall
      have HPRE := Lib.hid hpre
      have HIN := Lib.hid hin
      have HK := Lib.hid hK
      clear hall hin hK hwr hov hB hX hbl hXd hXs hpre hcut2 hed hes hY hYs hZd hZs hm2 hyi hsz hkk hX1
      obtain ⟨wo, rfl⟩ : ∃ wo : World, wo = wr := ⟨_, rfl⟩
      go_wp2_with fail
      refine (HPRE.out _).mono ?_
      rintro r w4 ⟨v4, rfl, hown4, k4⟩
      have K4 := Lib.hid (HK.out.trans k4)
      have HIN4 := Lib.hid (HIN.out.keeps k4)
      obtain ⟨o4', c4', rfl⟩ := hown4.shape
      clear hown4 k4
      go_wp2_with fail
      refine (HALL.out _).mono ?_
      rintro r w5 ⟨v5, rfl, hown5, k5⟩
      obtain ⟨o5, c5, rfl, hin5⟩ := evsIn_of_owns hown5
      have k45 := ((Keeps.refl [] w4).alloc (.cells #[.int .u8 yi] 5)).trans k5
      have K5 := Lib.hid (K4.out.trans k45)
      have HIN5 := Lib.hid hin5
      have HIN6 := Lib.hid (HIN4.out.keeps k45)
      clear hown5 hin5 k5 k45
      go_wp2_with fail
      refine (sameEvs_yes _ _ _ _ _ ds _ HIN5.out HIN6.out).mono ?_
      rintro r w6 ⟨rfl, k6⟩
      have K6 := Lib.hid (K5.out.trans k6)
      clear k6
      go_wp2_with fail
      go_ret
      exact ⟨rfl, K6.out⟩

theorem packinCuts_walk (o : Option Addr) (n c : Nat) (xs : List Int) (kk x : Int) (w : World) (h : IntsIn w o n c xs) (hk : -9223372036854775808 ≤ kk ∧ kk ≤ 9223372036854775807) (hx : 0 ≤ x ∧ x ≤ 255) :
    Calls Try.prog 4 #[.slice o n c, .int .i64 kk, .int .u8 x] w fun r w' => r = .returned (.bool true) ∧ Below w.heap.size w w' := by
  refine Calls.mono (R := fun r w' => r = .returned (.bool true) ∧ Keeps [] w w') ?_ (fun r w' h => ⟨h.1, h.2.all⟩)
  have m1 : n ≤ 9223372036854775807 := by have := h.room; have := h.most; unfold maxLen at *; omega
  by_cases h1 : 40 < (n : Int)
  · clear h
    go_enter Try.func4, Try.ntmps4
    go_wp2_with fail
    refine (palive_any w).mono ?_
    rintro e w1 ⟨rfl, k1⟩
    have K1 := Lib.hid k1
    clear k1
    go_wp2_with fail
    go_ret
    exact ⟨rfl, K1.out⟩
  · have hy : (((UInt8.ofNat x.toNat).toNat : Nat) : Int) = x := by rw [UInt8.toNat_ofNat']; omega
    have := cuts_yes o n c xs kk (UInt8.ofNat x.toNat) w h (by omega) hk
    rw [hy] at this
    exact this
end Go.Proofs.Ytmcbdkhlbmhfeaa
