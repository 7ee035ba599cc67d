/-
  cborin.Core's Length: its contract.
-/
import Derived.Test.YtmcbdkhlbmhfeaaCoreBegin
namespace Go.Proofs.Ytmcbdkhlbmhfeaa
open Go.RowKit Go.Tru

set_option maxHeartbeats 800000 in
theorem length_any {N : Int} {w : World} {base b : Nat} {T : TypeId} {rest : List Value} {ov sv : Value} {k : Core} (h : CoreOk N w base b T rest ov sv k) (word : Bool) (n : Int) (hn : 0 ≤ n) (hn2 : n ≤ 18446744073709551615) :
    Calls Try.prog 45 #[.pointer (some ⟨b, 0, none⟩), .bool word, .int .u64 n] w (CoreGives w base b T rest ov sv (k.length word n)) := by
  have hs := h.text
  obtain ⟨oo, oc, rfl⟩ := h.in_.opn.shape
  obtain ⟨so, sc, rfl⟩ := OwnsBytes.shape h.in_.s
  obtain ⟨g0, g1, g2, g3, g4, g5, g6, g7⟩ := core_facts h.in_
  obtain ⟨f1, f2, f3, f4, f5, f6, f7, hbl⟩ := core_free h.in_
  have g8 : w.cell? ⟨b, 8, none⟩ = some (.int .i64 k.c.lack) := h.in_.blk.cell 8
  have g9 : w.cell? ⟨b, 9, none⟩ = some (.int .u8 k.c.low) := h.in_.blk.cell 9
  have g10 : w.cell? ⟨b, 10, none⟩ = some (.int .u8 k.c.high) := h.in_.blk.cell 10
  have g11 : w.cell? ⟨b, 11, none⟩ = some (.bool k.c.bad) := h.in_.blk.cell 11
  have e8 := h.in_.blk.free 8
  have e9 := h.in_.blk.free 9
  have e10 := h.in_.blk.free 10
  have e11 := h.in_.blk.free 11
  have HOK := Lib.hid h
  clear h
  by_cases hl : (200 - (k.s.length : Int)) < n
  · rw [show k.length word n = k.fail 5 by unfold Core.length; rw [if_pos hl]]
    go_enter Try.func45, Try.ntmps45
    go_wp2_with fail
    refine (fail_gives 5 k w base b T rest _ _ HOK.out.in_).mono ?_
    rintro e w2 ⟨v, rfl, hown, hpost⟩
    obtain ⟨av, cv, rfl⟩ := hown.shape
    have HOWN := Lib.hid hown
    have HPOST := Lib.hid hpost
    clear hown hpost
    go_wp2_with fail
    go_ret
    exact ⟨_, rfl, HOWN.out, HPOST.out⟩
  · have hn200 : n ≤ 200 := by omega
    obtain ⟨k', hk'⟩ : ∃ k' : Core, k' = { k with word := word, lack := n, c := Chk.zero } := ⟨_, rfl⟩
    rw [show k.length word n = if 0 < n ∨ k.chunks = true then ([], k') else k'.text by subst hk'; unfold Core.length; rw [if_neg hl]]
    have hin : CoreIn ((((((w.setCell ⟨b, 4, none⟩ (.bool word)).setCell ⟨b, 6, none⟩ (.int .i64 n)).setCell ⟨b, 8, none⟩ (.int .i64 0)).setCell ⟨b, 9, none⟩ (.int .u8 0)).setCell ⟨b, 10, none⟩ (.int .u8 0)).setCell ⟨b, 11, none⟩ (.bool false)) base b T rest (.slice oo k.open_.length oc) (.slice so k.s.length sc) k' := by
      subst hk'
      exact (((((HOK.out.in_.put (i := 4) (u := .bool word) (k' := { k with word := word }) (by omega) rfl rfl rfl).put (i := 6) (u := .int .i64 n) (k' := { k with word := word, lack := n }) (by omega) rfl rfl rfl).put (i := 8) (u := .int .i64 0) (k' := { k with word := word, lack := n, c := { k.c with lack := 0 } }) (by omega) rfl rfl rfl).put (i := 9) (u := .int .u8 0) (k' := { k with word := word, lack := n, c := { k.c with lack := 0, low := 0 } }) (by omega) rfl rfl rfl).put (i := 10) (u := .int .u8 0) (k' := { k with word := word, lack := n, c := { k.c with lack := 0, low := 0, high := 0 } }) (by omega) rfl rfl rfl).put (i := 11) (u := .bool false) (k' := { k with word := word, lack := n, c := Chk.zero }) (by omega) rfl rfl rfl
    have hkp : Keeps (coBlks b (.slice oo k.open_.length oc) (.slice so k.s.length sc)) w ((((((w.setCell ⟨b, 4, none⟩ (.bool word)).setCell ⟨b, 6, none⟩ (.int .i64 n)).setCell ⟨b, 8, none⟩ (.int .i64 0)).setCell ⟨b, 9, none⟩ (.int .u8 0)).setCell ⟨b, 10, none⟩ (.int .u8 0)).setCell ⟨b, 11, none⟩ (.bool false)) :=
      ((((((Keeps.refl _ _).setIn (coBlks_self _ _ _) _).setIn (coBlks_self _ _ _) _).setIn (coBlks_self _ _ _) _).setIn (coBlks_self _ _ _) _).setIn (coBlks_self _ _ _) _).setIn (coBlks_self _ _ _) _
    have hfit : k'.Fit N := by
      subst hk'
      exact ⟨HOK.out.fit.depth, HOK.out.fit.opens, HOK.out.fit.parts, by simp only []; omega, Chk.fit_zero⟩
    have HIN := Lib.hid hin
    have HKP := Lib.hid hkp
    have HFIT := Lib.hid hfit
    clear hin hkp hfit
    have HK' := Lib.hid hk'
    clear hk'
    by_cases h0 : 0 < n
    · rw [if_pos (Or.inl h0)]
      go_enter Try.func45, Try.ntmps45
      go_wp2_with fail
      go_ret
      exact ⟨_, rfl, OwnsAny.nil _ _, CorePost.same HIN.out HKP.out⟩
    · cases hc : k.chunks with
      | true =>
        rw [hc] at g5
        rw [if_pos (Or.inr rfl)]
        go_enter Try.func45, Try.ntmps45
        go_wp2_with fail
        go_ret
        exact ⟨_, rfl, OwnsAny.nil _ _, CorePost.same HIN.out HKP.out⟩
      | false =>
        rw [hc] at g5
        rw [if_neg (by simp; omega)]
        have hso : (.slice oo k.open_.length oc : Value) = .slice oo k'.open_.length oc := by rw [HK'.out]
        have hok2 : CoreOk N _ base b T rest _ _ k' := ⟨HIN.out, HFIT.out, HOK.out.big, Nat.le_trans HOK.out.base_ HKP.out.size⟩
        have hv := text_any hok2
        clear hok2 hso
        go_enter Try.func45, Try.ntmps45
        go_wp2_with fail
        refine hv.mono ?_
        rintro e w2 ⟨v, rfl, hown, hpost⟩
        obtain ⟨av, cv, rfl⟩ := hown.shape
        have HOWN := Lib.hid hown
        have HPOST := Lib.hid hpost
        clear hown hpost hv
        go_wp2_with fail
        go_ret
        exact CoreGives.trans HKP.out (fun i hi => Or.inl hi) ⟨_, rfl, HOWN.out, HPOST.out⟩
end Go.Proofs.Ytmcbdkhlbmhfeaa
