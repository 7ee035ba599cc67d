/-
  cborin.Parser's head, whatever comes; Core's Break; simple; chunk: their contracts.
-/
import Derived.Test.YtdfdajedcgmbfaaCborTold
namespace Go.Proofs.Ytdfdajedcgmbfaa
open Go.RowKit Go.Tru

theorem chead_first {N : Int} {w : World} {base b : Nat} {ov sv : Value} {p : Cb} (hok : CoreOk N w base b 75 (cbRest p) ov sv p.c) (hz : p.h = Hd.zero) (x : Int) (hx0 : 0 ≤ x) (hx1 : x ≤ 255) (hm : x / 32 ≤ 5) :
    Calls Try.prog 29 #[.pointer (some ⟨b, 0, none⟩), .int .u8 x] w (CbGives w base b ov sv (p.first x)) := by
  have hin : CoreIn w base b 75 (Hd.zero.cells ++ [.bool p.begun]) ov sv p.c := by
    have := hok.in_
    unfold cbRest at this
    rw [hz] at this
    exact this
  unfold Cb.first
  by_cases h1 : x % 32 < 24
  · rw [if_pos h1]
    exact chead_end hok x (hstep_low hin x hx0 hx1 h1) rfl rfl (by simp only []; omega) (by simp only []; omega) (by simp only []; omega)
  rw [if_neg h1]
  by_cases h2 : x % 32 < 28
  · rw [if_pos h2]
    exact chead_wait hok x (hstep_len hin x hx0 hx1 (by omega) h2) rfl rfl
  rw [if_neg h2]
  by_cases h3 : x % 32 = 31
  · rw [if_pos h3]
    exact chead_end hok x (hstep_open hin x hx0 hx1 h3) rfl rfl (by simp only []; omega) (by simp only []; omega) (by simp only []; omega)
  · rw [if_neg h3]
    exact chead_bad hok x (hstep_bad hin x hx0 hx1 (by omega) (by omega)) rfl rfl

theorem chead_more {N : Int} {w : World} {base b : Nat} {ov sv : Value} {p : Cb} (hok : CoreOk N w base b 75 (cbRest p) ov sv p.c) (hf : p.h.Fit) (hmj : p.h.major ≤ 5) (x : Int) (hx0 : 0 ≤ x) (hx1 : x ≤ 255) :
    Calls Try.prog 29 #[.pointer (some ⟨b, 0, none⟩), .int .u8 x] w (CbGives w base b ov sv (p.more x)) := by
  have hst := hstep_more (h := p.h) (post := [.bool p.begun]) hok.in_ hf x hx0 hx1
  have hv := hf.v
  have hl := hf.lack
  have hv4 : p.h.v * 256 + x ≤ 18446744073709551615 := by
    have h9 : (256 : Int) ^ (8 - p.h.lack).toNat ≤ 72057594037927936 := by
      have : (8 - p.h.lack).toNat ≤ 7 := by omega
      generalize (8 - p.h.lack).toNat = j at this
      rcases (show j = 0 ∨ j = 1 ∨ j = 2 ∨ j = 3 ∨ j = 4 ∨ j = 5 ∨ j = 6 ∨ j = 7 by omega) with rfl | rfl | rfl | rfl | rfl | rfl | rfl | rfl <;> simp
    omega
  unfold Cb.more
  by_cases h1 : 0 < p.h.lack - 1
  · rw [if_pos h1]
    rw [decide_eq_false (show ¬ p.h.lack - 1 = 0 by omega)] at hst
    have e : ({ p.h with v := p.h.v * 256 + x, lack := p.h.lack - 1 } : Hd) = { p.h with v := p.h.v * 256 + x, lack := p.h.lack - 1, end_ := false } := by
      have := hf.end_
      cases hh : p.h
      rw [hh] at this
      simp only at this
      subst this
      rfl
    rw [e]
    exact chead_wait hok x hst rfl rfl
  · rw [if_neg h1]
    rw [decide_eq_true (show p.h.lack - 1 = 0 by omega)] at hst
    have h := chead_end hok x hst hf.e rfl (by simp only []; omega) hv4 ⟨hf.major.1, hmj⟩
    simp only [] at h
    rw [hf.open_] at h
    exact h

set_option maxHeartbeats 1600000 in
theorem brk_fail {N : Int} {w : World} {base b : Nat} {T : TypeId} {rest : List Value} {ov sv : Value} {k : Core} (h : CoreOk N w base b T rest ov sv k) (hb : k.brk = k.fail 2) :
    Calls Try.prog 47 #[.pointer (some ⟨b, 0, none⟩)] w (CoreGives w base b T rest ov sv k.brk) := by
  rw [hb]
  have hf := fail_gives 2 k w base b T rest ov sv h.in_
  obtain ⟨g0, g1, g2, g3, g4, g5, g6, g7⟩ := core_facts h.in_
  obtain ⟨oo, oc, rfl⟩ := h.in_.opn.shape
  have hopn := h.in_.opn
  have hbl := h.in_.blk.lt
  have hpp := h.parts
  have hbig := h.big
  have hop := h.opens
  have HF := Lib.hid hf
  clear h hf
  unfold Core.brk at hb
  generalize k.open_ = l at g1 hopn hb hpp hop HF
  cases l with
  | nil =>
    simp only [List.length_nil] at *
    clear hopn hb hpp
    go_enter Try.func47, Try.ntmps47
    go_wp2_with fail
    refine HF.out.mono ?_
    rintro e w2 ⟨v, rfl, hown, hpost⟩
    obtain ⟨av, cv, rfl⟩ := hown.shape
    have HOWN := Lib.hid hown
    have HPOST := Lib.hid hpost
    clear hown hpost
    go_wp2_with fail
    go_ret
    exact ⟨_, rfl, HOWN.out, HPOST.out⟩
  | cons c r =>
    have hcond : 0 ≤ c.count ∨ c.pairs = true ∧ 0 < c.parts % 2 := by
      by_cases hx : 0 ≤ c.count ∨ c.pairs = true ∧ 0 < c.parts % 2
      · exact hx
      · simp only [] at hb
        rw [if_neg hx] at hb
        have h1 := congrArg (fun t : List Ev × Core => t.1) hb
        simp [Core.value, Core.fail] at h1
    have hpc := hpp c (List.mem_cons_self ..)
    obtain ⟨g, cap, he, gb, gl, gr, gm, q0, q1, q2, gf⟩ := OwnsStk.some_ hopn
    simp only [List.length_cons, Value.slice.injEq, true_and] at he
    obtain ⟨rfl, rfl⟩ := he
    simp only [List.length_cons] at *
    unfold maxLen at gm
    clear gf hopn hb hpp
    rcases (show 0 ≤ c.count ∨ ¬ 0 ≤ c.count ∧ c.pairs = true ∧ 0 < c.parts % 2 by
      by_cases hx : 0 ≤ c.count
      · exact Or.inl hx
      · exact Or.inr ⟨hx, hcond.resolve_left hx⟩) with hx | ⟨hx, hy, hz⟩
    · clear hcond
      go_enter Try.func47, Try.ntmps47
      go_wp2_with fail
      refine HF.out.mono ?_
      rintro e w2 ⟨v, rfl, hown, hpost⟩
      obtain ⟨av, cv, rfl⟩ := hown.shape
      have HOWN := Lib.hid hown
      have HPOST := Lib.hid hpost
      clear hown hpost
      go_wp2_with fail
      go_ret
      exact ⟨_, rfl, HOWN.out, HPOST.out⟩
    · rw [hy] at q0
      clear hcond hy
      go_enter Try.func47, Try.ntmps47
      go_wp2_with fail
      refine HF.out.mono ?_
      rintro e w2 ⟨v, rfl, hown, hpost⟩
      obtain ⟨av, cv, rfl⟩ := hown.shape
      have HOWN := Lib.hid hown
      have HPOST := Lib.hid hpost
      clear hown hpost
      go_wp2_with fail
      go_ret
      exact ⟨_, rfl, HOWN.out, HPOST.out⟩

set_option maxHeartbeats 1600000 in
theorem brk_ok {N : Int} {w : World} {base b : Nat} {T : TypeId} {rest : List Value} {ov sv : Value} {k : Core} (h : CoreOk N w base b T rest ov sv k) {c : Cont} {r : List Cont} (ho : k.open_ = c :: r) (hb : ¬ (0 ≤ c.count ∨ c.pairs = true ∧ 0 < c.parts % 2)) :
    Calls Try.prog 47 #[.pointer (some ⟨b, 0, none⟩)] w (CoreGives w base b T rest ov sv k.brk) := by
  rw [show k.brk = Core.value { k with open_ := r } evEnd by unfold Core.brk; rw [ho]; simp only []; rw [if_neg hb]]
  obtain ⟨g0, g1, g2, g3, g4, g5, g6, g7⟩ := core_facts h.in_
  obtain ⟨f1, f2, f3, f4, f5, f6, f7, hbl⟩ := core_free h.in_
  have hopn := h.in_.opn
  rw [ho] at hopn
  obtain ⟨g, cap, rfl, gb, gl, gr, gm, q0, q1, q2, gf⟩ := OwnsStk.some_ hopn
  have hset := CoreIn.setOpn h.in_ (OwnsStk.pop hopn) (Keeps.refl _ _) (Or.inl rfl)
  have hpc := h.parts c (by rw [ho]; exact List.mem_cons_self ..)
  have hbig := h.big
  have hrl : r.length ≤ 100 := by have := h.opens; rw [ho] at this; simp only [List.length_cons] at this; omega
  have hok2 : CoreOk N (w.setCell ⟨b, 1, none⟩ (.slice (some ⟨g, 0, none⟩) r.length cap)) base b T rest (.slice (some ⟨g, 0, none⟩) r.length cap) sv { k with open_ := r } :=
    ⟨hset.1, ⟨h.fit.depth, by have := h.fit.opens; rw [ho] at this; simp only [List.length_cons] at this; simp only []; omega, fun x hx => h.fit.parts x (by rw [ho]; exact List.mem_cons_of_mem _ hx), h.fit.lack, h.fit.chk⟩, h.big, by simpa [World.setCell] using h.base_⟩
  have hv := value_ok hok2 evEnd
  rw [part_end] at hv
  have HV := Lib.hid hv
  have HSET := Lib.hid hset
  unfold maxLen at gm
  have hx : ¬ 0 ≤ c.count := fun hx => hb (Or.inl hx)
  have hpar : c.pairs = false ∨ c.pairs = true ∧ ¬ 0 < c.parts % 2 := by
    cases hp : c.pairs with
    | false => exact Or.inl rfl
    | true => exact Or.inr ⟨rfl, fun h => hb (Or.inr ⟨hp, h⟩)⟩
  clear h hopn hset hok2 hv gf ho hb
  rcases hpar with hp | ⟨hp, hpz⟩
  all_goals
    rw [hp] at q0
    clear hp
    go_enter Try.func47, Try.ntmps47
    go_wp2_with fail
    refine HV.out.mono ?_
    rintro e w2 ⟨v, rfl, hown, hpost⟩
    obtain ⟨av, cv, rfl⟩ := hown.shape
    have HOWN := Lib.hid hown
    have HPOST := Lib.hid hpost
    clear hown hpost
    go_wp2_with fail
    go_ret
    exact CoreGives.trans HSET.out.2.1 HSET.out.2.2 ⟨_, rfl, HOWN.out, HPOST.out⟩

theorem brk_any {N : Int} {w : World} {base b : Nat} {T : TypeId} {rest : List Value} {ov sv : Value} {k : Core} (h : CoreOk N w base b T rest ov sv k) :
    Calls Try.prog 47 #[.pointer (some ⟨b, 0, none⟩)] w (CoreGives w base b T rest ov sv k.brk) := by
  cases ho : k.open_ with
  | nil => exact brk_fail h (by unfold Core.brk; rw [ho])
  | cons c r =>
    by_cases hb : 0 ≤ c.count ∨ c.pairs = true ∧ 0 < c.parts % 2
    · exact brk_fail h (by unfold Core.brk; rw [ho]; simp only []; rw [if_pos hb])
    · exact brk_ok h ho hb

set_option maxHeartbeats 1600000 in
theorem simple_any {N : Int} {w : World} {base b : Nat} {ov sv : Value} {p : Cb} (hok : CoreOk N w base b 75 (cbRest p) ov sv p.c) (low : Int) (hl : 0 ≤ low ∧ low ≤ 31) :
    Calls Try.prog 49 #[.pointer (some ⟨b, 0, none⟩), .int .u8 low] w (CbGives w base b ov sv (p.simple low)) := by
  have hbl := hok.in_.blk.lt
  have HF := Lib.hid (fun e => fail_gives e p.c w base b 75 _ ov sv hok.in_)
  have HV := Lib.hid (fun q => value_ok hok q)
  clear hok
  obtain ⟨res, hres⟩ : ∃ res, p.simple low = res := ⟨_, rfl⟩
  rw [hres]
  have HR := Lib.hid hres
  clear hres
  rcases (show low = 20 ∨ low = 21 ∨ low = 22 ∨ low = 25 ∨ low = 26 ∨ low = 27 ∨ (¬ low = 20 ∧ ¬ low = 21 ∧ ¬ low = 22 ∧ ¬ low = 25 ∧ ¬ low = 26 ∧ ¬ low = 27) by omega) with rfl | rfl | rfl | rfl | rfl | rfl | ⟨n1, n2, n3, n4, n5, n6⟩
  · have hv := HV.out (evBool false)
    rw [part_bool] at hv
    have HVV := Lib.hid hv
    clear hv
    go_enter Try.func49, Try.ntmps49
    go_wp2_with fail
    refine HVV.out.mono ?_
    rintro e w2 hg
    obtain ⟨v, rfl, hown, hpost⟩ := CoreGives.cb hg
    obtain ⟨av, cv, rfl⟩ := hown.shape
    have HOWN := Lib.hid hown
    have HPOST := Lib.hid hpost
    clear hown hpost hg
    go_wp2_with fail
    go_ret
    rw [← HR.out, show p.simple 20 = p.put (p.c.value (evBool false)) from rfl]
    exact ⟨_, rfl, HOWN.out, HPOST.out⟩
  · have hv := HV.out (evBool true)
    rw [part_bool] at hv
    have HVV := Lib.hid hv
    clear hv
    go_enter Try.func49, Try.ntmps49
    go_wp2_with fail
    refine HVV.out.mono ?_
    rintro e w2 hg
    obtain ⟨v, rfl, hown, hpost⟩ := CoreGives.cb hg
    obtain ⟨av, cv, rfl⟩ := hown.shape
    have HOWN := Lib.hid hown
    have HPOST := Lib.hid hpost
    clear hown hpost hg
    go_wp2_with fail
    go_ret
    rw [← HR.out, show p.simple 21 = p.put (p.c.value (evBool true)) from rfl]
    exact ⟨_, rfl, HOWN.out, HPOST.out⟩
  · have hv := HV.out evNull
    rw [part_null] at hv
    have HVV := Lib.hid hv
    clear hv
    go_enter Try.func49, Try.ntmps49
    go_wp2_with fail
    refine HVV.out.mono ?_
    rintro e w2 hg
    obtain ⟨v, rfl, hown, hpost⟩ := CoreGives.cb hg
    obtain ⟨av, cv, rfl⟩ := hown.shape
    have HOWN := Lib.hid hown
    have HPOST := Lib.hid hpost
    clear hown hpost hg
    go_wp2_with fail
    go_ret
    rw [← HR.out, show p.simple 22 = p.put (p.c.value evNull) from rfl]
    exact ⟨_, rfl, HOWN.out, HPOST.out⟩
  · go_enter Try.func49, Try.ntmps49
    go_wp2_with fail
    refine (HF.out 6).mono ?_
    rintro e w2 hg
    obtain ⟨v, rfl, hown, hpost⟩ := CoreGives.cb hg
    obtain ⟨av, cv, rfl⟩ := hown.shape
    have HOWN := Lib.hid hown
    have HPOST := Lib.hid hpost
    clear hown hpost hg
    go_wp2_with fail
    go_ret
    rw [← HR.out, show p.simple 25 = p.put (p.c.fail 6) from rfl]
    exact ⟨_, rfl, HOWN.out, HPOST.out⟩
  · go_enter Try.func49, Try.ntmps49
    go_wp2_with fail
    refine (HF.out 6).mono ?_
    rintro e w2 hg
    obtain ⟨v, rfl, hown, hpost⟩ := CoreGives.cb hg
    obtain ⟨av, cv, rfl⟩ := hown.shape
    have HOWN := Lib.hid hown
    have HPOST := Lib.hid hpost
    clear hown hpost hg
    go_wp2_with fail
    go_ret
    rw [← HR.out, show p.simple 26 = p.put (p.c.fail 6) from rfl]
    exact ⟨_, rfl, HOWN.out, HPOST.out⟩
  · go_enter Try.func49, Try.ntmps49
    go_wp2_with fail
    refine (HF.out 6).mono ?_
    rintro e w2 hg
    obtain ⟨v, rfl, hown, hpost⟩ := CoreGives.cb hg
    obtain ⟨av, cv, rfl⟩ := hown.shape
    have HOWN := Lib.hid hown
    have HPOST := Lib.hid hpost
    clear hown hpost hg
    go_wp2_with fail
    go_ret
    rw [← HR.out, show p.simple 27 = p.put (p.c.fail 6) from rfl]
    exact ⟨_, rfl, HOWN.out, HPOST.out⟩
  · have b1 : (low == 20) = false := by simpa using n1
    have b2 : (low == 21) = false := by simpa using n2
    have b3 : (low == 22) = false := by simpa using n3
    have b4 : (low == 25) = false := by simpa using n4
    have b5 : (low == 26) = false := by simpa using n5
    have b6 : (low == 27) = false := by simpa using n6
    have HM := Lib.hid (show p.simple low = p.put (p.c.fail 8) by unfold Cb.simple; rw [if_neg (by omega), if_neg n3, if_neg (by omega)])
    clear n1 n2 n3 n4 n5 n6
    go_enter Try.func49, Try.ntmps49
    go_wp2_with fail
    refine (HF.out 8).mono ?_
    rintro e w2 hg
    obtain ⟨v, rfl, hown, hpost⟩ := CoreGives.cb hg
    obtain ⟨av, cv, rfl⟩ := hown.shape
    have HOWN := Lib.hid hown
    have HPOST := Lib.hid hpost
    clear hown hpost hg
    go_wp2_with fail
    go_ret
    rw [← HR.out, HM.out]
    exact ⟨_, rfl, HOWN.out, HPOST.out⟩
end Go.Proofs.Ytdfdajedcgmbfaa
