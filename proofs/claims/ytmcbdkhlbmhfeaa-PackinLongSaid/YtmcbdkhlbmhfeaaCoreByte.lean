/-
  cborin.Core's Byte: its contract.
-/
import Derived.Test.YtmcbdkhlbmhfeaaCoreLen
namespace Go.Tru
theorem byteVals_one {x : Int} (h0 : 0 ≤ x) (h1 : x ≤ 255) : byteVals [UInt8.ofNat x.toNat] = [.int .u8 x] := by
  have h2 : (UInt8.ofNat x.toNat).toNat = x.toNat := by simp; omega
  simp only [byteVals, List.map_cons, List.map_nil, h2]
  congr 2
  omega
end Go.Tru
namespace Go.Proofs.Ytmcbdkhlbmhfeaa
open Go.RowKit Go.Tru

theorem CoreIn.setChk {w w' : World} {base b : Nat} {T : TypeId} {rest : List Value} {ov sv : Value} {k : Core} {c' : Chk} (h : CoreIn w base b T rest ov sv k) (hp : ChkPost w b (corePre k ov sv) rest T c' w') : CoreIn w' base b T rest ov sv { k with c := c' } := by
  obtain ⟨h1, kp⟩ := hp
  exact ⟨h1, ownsRow_keeps h.opn kp (fun i hi hm => h.bo (by rw [List.mem_singleton] at hm; exact hm ▸ mem_blks.2 hi)), ownsRow_keeps h.s kp (fun i hi hm => h.bs (by rw [List.mem_singleton] at hm; exact hm ▸ mem_blks.2 hi)), h.bo, h.bs, h.os⟩

set_option maxHeartbeats 1600000 in
theorem byte_any {N : Int} {w : World} {base b : Nat} {T : TypeId} {rest : List Value} {ov sv : Value} {k : Core} (h : CoreOk N w base b T rest ov sv k) (x : Int) (hx0 : 0 ≤ x) (hx1 : x ≤ 255) (hlk : 0 < k.lack) :
    Calls Try.prog 29 #[.pointer (some ⟨b, 0, none⟩), .int .u8 x] w (CoreGives w base b T rest ov sv (k.byte x)) := by
  have hs := h.text
  have hlack := h.fit.lack
  obtain ⟨oo, oc, rfl⟩ := h.in_.opn.shape
  obtain ⟨so, sc, rfl⟩ := OwnsBytes.shape h.in_.s
  obtain ⟨g0, g1, g2, g3, g4, g5, g6, g7⟩ := core_facts h.in_
  obtain ⟨f1, f2, f3, f4, f5, f6, f7, hbl⟩ := core_free h.in_
  have hbl2 : b < w.heap.size + 1 := by omega
  have hb := h.base_
  have HOK := Lib.hid h
  clear h
  obtain ⟨res, hres⟩ : ∃ res, k.byte x = res := ⟨_, rfl⟩
  rw [hres]
  have HR := Lib.hid hres
  clear hres
  obtain ⟨k1, hk1⟩ : ∃ k1 : Core, k1 = { k with s := k.s ++ [UInt8.ofNat x.toNat], lack := k.lack - 1 } := ⟨_, rfl⟩
  obtain ⟨k2, hk2⟩ : ∃ k2 : Core, k2 = { k1 with c := k.c.step x } := ⟨_, rfl⟩
  have hm : k.word = false → k.byte x = if 0 < k.lack - 1 ∨ k.chunks = true then ([], k1) else k1.text := by
    intro hw
    subst hk1
    unfold Core.byte
    simp only [hw, Bool.false_eq_true, if_false, false_and]
  have hm9 : k.word = true → (k.c.step x).bad = true ∨ k.lack - 1 = 0 ∧ (k.c.step x).whole = false → k.byte x = k2.fail 9 := by
    intro hw h9
    subst hk2 hk1
    unfold Core.byte
    simp only [hw, if_true, true_and]
    rw [if_pos h9]
  have hm2 : k.word = true → ¬ ((k.c.step x).bad = true ∨ k.lack - 1 = 0 ∧ (k.c.step x).whole = false) → k.byte x = if 0 < k.lack - 1 ∨ k.chunks = true then ([], k2) else k2.text := by
    intro hw h9
    subst hk2 hk1
    unfold Core.byte
    simp only [hw, if_true, true_and]
    rw [if_neg h9]
  have HM := Lib.hid hm
  have HM9 := Lib.hid hm9
  have HM2 := Lib.hid hm2
  have HK1 := Lib.hid hk1
  have HK2 := Lib.hid hk2
  clear hm hm9 hm2 hk1 hk2
  go_enter Try.func29, Try.ntmps29
  go_wp2_with (at_builtin; go_must (refine app_byte rfl _ _ rfl base _ k.s rfl (ownsRow_keeps HOK.out.in_.s ((Keeps.refl [] _).alloc _) (by simp)) ⟨_, 0, none⟩ 1 1 [UInt8.ofNat x.toNat] rfl rfl (by rw [byteVals_one hx0 hx1]; exact cells_new [.int .u8 x] (by simp)) (by omega) (by simp; omega) ?_))
  intro v2 w2 hown2 hk2 _ hb2
  obtain ⟨a2, c2, rfl⟩ := OwnsBytes.shape hown2
  have k02 := ((Keeps.refl (blks (.slice so k.s.length sc)) w).alloc (.cells #[.int .u8 x] 5)).trans hk2
  have hset := CoreIn.setS HOK.out.in_ hown2 k02 (hb2.imp id (fun h => Or.inr ⟨_, h, by omega⟩))
  have hcore2 := HOK.out.in_.blk.keeps k02 HOK.out.in_.bs
  have hbl4 := hcore2.lt
  have g6 : w2.cell? ⟨b, 6, none⟩ = some (.int .i64 k.lack) := hcore2.cell 6
  have g7 : w2.cell? ⟨b, 7, none⟩ = some (.slice so k.s.length sc) := hcore2.cell 7
  have g4 : w2.cell? ⟨b, 4, none⟩ = some (.bool k.word) := hcore2.cell 4
  have g5 : w2.cell? ⟨b, 5, none⟩ = some (.bool k.chunks) := hcore2.cell 5
  have f6 := hcore2.free 6
  have f7 := hcore2.free 7
  have hput := hset.1.put (i := 6) (u := .int .i64 (k.lack - 1)) (k' := { k with s := k.s ++ [UInt8.ofNat x.toNat], lack := k.lack - 1 }) (by omega) rfl rfl rfl
  rw [← HK1.out] at hput
  have hkp := hset.2.1.setIn (i := 6) (coBlks_self _ _ _) (.int .i64 (k.lack - 1))
  have hbk := hset.2.2
  clear hset hown2 hk2 hb2 k02 hcore2 g0 g1 g2 g3 f1 f2 f3 f4 f5
  have HFIT := Lib.hid (show k1.Fit N by
    rw [HK1.out]
    exact ⟨HOK.out.fit.depth, HOK.out.fit.opens, HOK.out.fit.parts, by simp only [List.length_append, List.length_singleton]; omega, HOK.out.fit.chk⟩)
  have HFIT2 := Lib.hid (show k2.Fit N by
    rw [HK2.out]
    exact ⟨HFIT.out.depth, HFIT.out.opens, HFIT.out.parts, HFIT.out.lack, Chk.fit_step HOK.out.fit.chk x⟩)
  simp only [List.length_append, List.length_singleton] at *
  have HPUT := Lib.hid hput
  have HKP := Lib.hid hkp
  have HBK := Lib.hid hbk
  clear hput hkp hbk
  cases hw : k.word with
  | false =>
    have HW := Lib.hid hw
    rw [hw] at g4
    clear hw
    rcases (show 0 < k.lack - 1 ∨ ¬ 0 < k.lack - 1 ∧ k.chunks = true ∨ ¬ 0 < k.lack - 1 ∧ k.chunks = false by
      cases k.chunks <;> simp <;> omega) with hl | ⟨hl, hc⟩ | ⟨hl, hc⟩
    · go_wp2_with fail
      go_ret
      rw [← HR.out, HM.out HW.out, if_pos (Or.inl hl)]
      exact ⟨_, rfl, OwnsAny.nil _ _, _, _, HPUT.out, HKP.out, HBK.out⟩
    · have HC := Lib.hid hc
      rw [hc] at g5
      clear hc
      go_wp2_with fail
      go_ret
      rw [← HR.out, HM.out HW.out, if_pos (Or.inr HC.out)]
      exact ⟨_, rfl, OwnsAny.nil _ _, _, _, HPUT.out, HKP.out, HBK.out⟩
    · have HC := Lib.hid hc
      rw [hc] at g5
      clear hc
      have hv := text_any (N := N) (⟨HPUT.out, HFIT.out, HOK.out.big, Nat.le_trans hb (Keeps.size HKP.out)⟩ : CoreOk N _ base b T rest _ _ k1)
      go_wp2_with fail
      refine hv.mono ?_
      rintro e w9 ⟨v, rfl, hown, hpost⟩
      obtain ⟨av, cv, rfl⟩ := hown.shape
      have HOWN := Lib.hid hown
      have HPOST := Lib.hid hpost
      clear hown hpost hv
      go_wp2_with fail
      go_ret
      rw [← HR.out, HM.out HW.out, if_neg (by rw [HC.out]; simp; omega)]
      exact CoreGives.trans HKP.out HBK.out ⟨_, rfl, HOWN.out, HPOST.out⟩
  | true =>
    have HW := Lib.hid hw
    rw [hw] at g4
    clear hw
    go_wp2_with fail
    have hcs := check_step b (corePre k1 _ _) rest T k1.c x _ HPUT.out.blk 8 rfl hx0 hx1 HFIT.out.chk
    rw [show k1.c = k.c by rw [HK1.out]] at hcs
    refine hcs.mono ?_
    clear hcs
    rintro e w4 ⟨rfl, hp4⟩
    have hco4 := CoreIn.setChk HPUT.out hp4
    rw [← HK2.out] at hco4
    have hkp4 := HKP.out.trans (hp4.2.mono (fun i hi => by rw [List.mem_singleton] at hi; exact hi ▸ coBlks_self _ _ _))
    obtain ⟨g0, g1, g2, g3, g4, g5, g6, g7⟩ := core_facts hco4
    obtain ⟨f1, f2, f3, f4, f5, f6, f7, hbl⟩ := core_free hco4
    rw [show k2.chunks = k.chunks by rw [HK2.out, HK1.out]] at g5
    rw [show k2.lack = k.lack - 1 by rw [HK2.out, HK1.out]] at g6
    have hcw := check_whole b (corePre k2 _ _) rest T k2.c w4 hco4.blk 8 rfl
    rw [show k2.c = k.c.step x by rw [HK2.out]] at hcw
    have HC4 := Lib.hid hco4
    have HKP4 := Lib.hid hkp4
    have HCW := Lib.hid hcw
    clear hp4 hco4 hkp4 hcw
    cases hbad : (k.c.step x).bad with
    | true =>
      go_wp2_with fail
      refine (fail_gives 9 k2 w4 base b T rest _ _ HC4.out).mono ?_
      rintro e w5 ⟨v, rfl, hown, hpost⟩
      obtain ⟨av, cv, rfl⟩ := hown.shape
      have HOWN := Lib.hid hown
      have HPOST := Lib.hid hpost
      clear hown hpost
      go_wp2_with fail
      go_ret
      rw [← HR.out, HM9.out HW.out (Or.inl hbad)]
      exact CoreGives.trans HKP4.out HBK.out ⟨_, rfl, HOWN.out, HPOST.out⟩
    | false =>
      have HBAD := Lib.hid hbad
      by_cases hl0 : k.lack - 1 = 0
      · have hl1 : (k.lack - 1 == 0) = true := by simp [hl0]
        have HL0 := Lib.hid hl0
        go_wp2_with fail
        refine HCW.out.mono ?_
        rintro e w5 ⟨rfl, rfl⟩
        cases hwh : (k.c.step x).whole with
        | false =>
          have HWH := Lib.hid hwh
          go_wp2_with fail
          refine (fail_gives 9 k2 w4 base b T rest _ _ HC4.out).mono ?_
          rintro e w5 ⟨v, rfl, hown, hpost⟩
          obtain ⟨av, cv, rfl⟩ := hown.shape
          have HOWN := Lib.hid hown
          have HPOST := Lib.hid hpost
          clear hown hpost
          go_wp2_with fail
          go_ret
          rw [← HR.out, HM9.out HW.out (Or.inr ⟨HL0.out, HWH.out⟩)]
          exact CoreGives.trans HKP4.out HBK.out ⟨_, rfl, HOWN.out, HPOST.out⟩
        | true =>
          have HWH := Lib.hid hwh
          have hl : ¬ 0 < k.lack - 1 := by omega
          rcases (show k.chunks = true ∨ k.chunks = false by cases k.chunks <;> simp) with hc | hc
          · have HC := Lib.hid hc
            rw [hc] at g5
            clear hc
            go_wp2_with fail
            go_ret
            rw [← HR.out, HM2.out HW.out (by rw [HBAD.out, HWH.out]; simp), if_pos (Or.inr HC.out)]
            exact ⟨_, rfl, OwnsAny.nil _ _, _, _, HC4.out, HKP4.out, HBK.out⟩
          · have HC := Lib.hid hc
            rw [hc] at g5
            clear hc
            have hv := text_any (N := N) (⟨HC4.out, HFIT2.out, HOK.out.big, Nat.le_trans hb (Keeps.size HKP4.out)⟩ : CoreOk N _ base b T rest _ _ k2)
            go_wp2_with fail
            refine hv.mono ?_
            rintro e w9 ⟨v, rfl, hown, hpost⟩
            obtain ⟨av, cv, rfl⟩ := hown.shape
            have HOWN := Lib.hid hown
            have HPOST := Lib.hid hpost
            clear hown hpost hv
            go_wp2_with fail
            go_ret
            rw [← HR.out, HM2.out HW.out (by rw [HBAD.out, HWH.out]; simp), if_neg (by rw [HC.out]; simp; omega)]
            exact CoreGives.trans HKP4.out HBK.out ⟨_, rfl, HOWN.out, HPOST.out⟩
      · have hl1 : (k.lack - 1 == 0) = false := by simp [hl0]
        have HL0 := Lib.hid hl0
        have hl : 0 < k.lack - 1 := by omega
        go_wp2_with fail
        go_ret
        rw [← HR.out, HM2.out HW.out (by rw [HBAD.out]; simp [HL0.out]), if_pos (Or.inl hl)]
        exact ⟨_, rfl, OwnsAny.nil _ _, _, _, HC4.out, HKP4.out, HBK.out⟩
end Go.Proofs.Ytmcbdkhlbmhfeaa
