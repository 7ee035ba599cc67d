/-
  StageWhole's walk.
-/
import Derived.Test.YtmhkgfddlkdmgaaWholeJson
import Derived.Test.YtmhkgfddlkdmgaaStageAlive
import Derived.Test.YtmhkgfddlkdmgaaEvRow2
import Derived.Deep.QuietTactic
import Derived.BigQuiet
namespace Go.Proofs.Ytmhkgfddlkdmgaa
open Go.RowKit Go.Tru

theorem neq_ev (a : Ev) (w : World) : (binOp .neq 34 a.val a.val).run Try.prog w = .ok (.bool false) w := by
  obtain ⟨k, y, m, t, c⟩ := a
  simp only [Ev.val, Ev.cells]
  go_simp

def WholeRel (L L' : List Ev) (B b : Nat) (w : World) (v i : Value) (wr : World) : Prop :=
  ∃ (k : Nat) (s : St) (hv ov : Value), k ≤ L.length ∧ i = .int .i64 k ∧ StIn wr b b hv ov s ∧ s.Fit ∧ Keeps [] w wr ∧
    ((k < L.length ∧ (St.new 2000).walk (L.take k) = some ([], s) ∧ v = .slice none 0 0) ∨ (k = L.length ∧ OwnsEvs wr B v L' ∧ s = St.new 2000))

set_option maxHeartbeats 3200000 in
set_option maxRecDepth 100000 in
theorem stageWhole_walk (s : ByteArray) (w : World) :
    Calls Try.prog 3 #[.string s] w fun r w' => r = .returned (.bool true) ∧ Below w.heap.size w w' := by
  refine Calls.mono (R := fun r w' => r = .returned (.bool true) ∧ Keeps [] w w') ?_ (fun r w' h => ⟨h.1, h.2.all⟩)
  by_cases hn : (200 : Int) < (s.size : Int)
  · go_enter Try.func3, Try.ntmps3
    go_wp2_with fail
    refine (alive_any w).mono ?_
    rintro e w1 ⟨rfl, k1⟩
    have K1 := Lib.hid k1
    clear k1
    go_wp2_with fail
    go_ret
    exact ⟨rfl, K1.out⟩
  go_enter Try.func3, Try.ntmps3
  go_wp2_with fail
  refine (alive_any w).mono ?_
  rintro e w1 ⟨rfl, k1⟩
  have K1 := Lib.hid k1
  have z1 := k1.size
  clear k1
  go_wp2_with fail
  refine (json_any s (by omega) w1).mono ?_
  rintro e w2 ⟨vL, L, x, d, y, rfl, hown2, hL, k2⟩
  obtain ⟨la, lc, rfl⟩ := hown2.shape
  have HO2 := Lib.hid hown2
  have K2 := Lib.hid (K1.out.trans k2)
  have z2 := k2.size
  clear hown2 k2
  by_cases hx : x = 0
  rotate_left 1
  · have hx2 : (x != 0) = true := by simp [hx]
    clear hx hL
    go_wp2_with fail
    go_ret
    exact ⟨rfl, K2.out.alloc _⟩
  subst hx
  obtain ⟨ts, p, hts, htk, hpe, hpn⟩ := hL rfl
  obtain ⟨⟨L', hdoc⟩, hsz, hlen, hclear⟩ := toks_whole htk hpe hpn
  have hlt := tokSum_len ts
  have hl200 : L.length ≤ 200 := by omega
  have hL'l : L'.length = L.length := (whole_alike hdoc).len
  have HD := Lib.hid hdoc
  have HSZ := Lib.hid (show sizesOf L ≤ 2000 by omega)
  have HCL := Lib.hid hclear
  have HTX := Lib.hid (show ∀ p ∈ L, p.text.size ≤ 1000000 from fun p hp => by have := text_le hp; omega)
  have HLEN := Lib.hid hL'l
  clear hL hts htk hpe hpn hdoc hsz hlen hclear hlt hL'l ts p
  have HB := Lib.hid (Has.new w2 [.slice la L.length lc, .int .i64 0, .bool d, .int .i64 y] 26)
  have HO3 := Lib.hid (ownsRow_keeps HO2.out ((Keeps.refl [] w2).alloc (.cells [.slice la L.length lc, .int .i64 0, .bool d, .int .i64 y].toArray 26)) (by simp))
  have K3 := Lib.hid (K2.out.alloc (.cells [.slice la L.length lc, .int .i64 0, .bool d, .int .i64 y].toArray 26))
  go_wp2_with fail
  obtain ⟨w3, hw3⟩ : ∃ w3, w2.alloc (.cells #[.slice la L.length lc, .int .i64 0, .bool d, .int .i64 y] 26) = w3 := ⟨_, rfl⟩
  have z3 : w2.heap.size + 1 = w3.heap.size := by rw [← hw3]; simp
  simp only [hw3] at HB HO3 K3
  rw [hw3]
  clear hw3
  refine (new_any 2000 w3).mono ?_
  rintro e w4 ⟨rfl, hs4, k4⟩
  rw [show min (max (2000 : Int) 0) 2000 = 2000 by decide] at hs4
  have HS4 := Lib.hid hs4
  have K4 := Lib.hid (K3.out.trans k4)
  have K34 := Lib.hid k4
  have z4 := k4.size
  clear hs4 k4 HO2
  have c0 := Has.cell (HB.out.keeps K34.out (by simp)) 0
  simp only [List.getElem?_cons_zero] at c0
  have hlow : w2.heap.size < w4.heap.size := by omega
  go_wp2_with fail
  go_loopw [5, 34] (fun v i wr => WholeRel L L' w3.heap.size w3.heap.size w3 v i wr) (fun _ i _ => L.length - (intOf i).toNat)
  case atStart =>
    by_cases h0 : 0 < L.length
    · exact ⟨0, St.new 2000, _, _, Nat.zero_le _, rfl, HS4.out, fit_new (by omega), K34.out, Or.inl ⟨h0, rfl, rfl⟩⟩
    · have : L.length = 0 := by omega
      have hnil : L = [] := List.eq_nil_of_length_eq_zero this
      have := HD.out
      rw [hnil] at this
      cases this
  case round =>
    obtain ⟨k, st, hv, ov, hk, rfl, hs, hfit, hK, hcase⟩ := hrel
    have hbl := hs.base_lt
    have hzw := hK.size
    have c0 := Has.cell (HB.out.keeps hK (by simp)) 0
    simp only [List.getElem?_cons_zero] at c0
    have hbw : w2.heap.size < wr.heap.size := by omega
    by_cases hlt : k < L.length
    · rcases hcase with ⟨_, hwk, rfl⟩ | ⟨h1, _⟩
      rotate_left 1
      · omega
      have hpc := HCL.out _ (List.getElem_mem hlt)
      have hpt := HTX.out _ (List.getElem_mem hlt)
      obtain ⟨o6, c6, e6, hin6⟩ := evsIn_of_owns (ownsRow_keeps HO3.out hK (by simp))
      simp only [Value.slice.injEq] at e6
      obtain ⟨rfl, _, rfl⟩ := e6
      have hroom := hin6.room
      have hmost := hin6.most
      unfold maxLen at hmost
      obtain ⟨b5, f5, rfl, q0, q1, q2, q3, q4⟩ := hin6.get hlt hlt
      obtain ⟨out, t, hst, hnext⟩ := whole_round HD.out HSZ.out hlt hwk
      have HFIT := Lib.hid hfit
      have hfit2 := fit_step hfit hpc
      rw [hst] at hfit2
      have HFIT2 := Lib.hid hfit2
      generalize hpe : L[k] = p at q0 q1 q2 q3 q4 hpc hpt hst
      have HT2 := Lib.hid (clear_tidy hpc)
      have HPC := Lib.hid hpc
      have HPT := Lib.hid hpt
      have HSTEP := Lib.hid hst
      have HS := Lib.hid hs
      have HK' := Lib.hid hK
      have HN := Lib.hid hnext
      have hki : (k : Int) < (L.length : Int) := by omega
      clear hpc hpt hst hfit hfit2 hs hK hwk hin6 hpe hnext
      obtain ⟨pv, hpv⟩ : ∃ pv, p.part = pv := ⟨_, rfl⟩
      have HPV := Lib.hid hpv
      clear hpv
      go_wp2_with fail
      refine (of_yes p p _ HT2.out).mono ?_
      rintro e w6 ⟨rfl, k6⟩
      rw [HPV.out]
      have HS6 := Lib.hid (HS.out.keep0 k6)
      have K6 := Lib.hid (HK'.out.trans k6)
      have z6 := k6.size
      clear k6
      go_wp2_with fail
      have hst := step_any st p HPC.out HPT.out w6 w3.heap.size w3.heap.size _ _ HS6.out HFIT.out (by omega)
      rw [HPV.out, HSTEP.out] at hst
      refine hst.mono ?_
      clear hst
      rintro e w7 ⟨v7, rfl, hown7, hv7, ov7, hs7, k7, hb7⟩
      obtain ⟨a7, c7, rfl, hin7⟩ := anysIn_of_owns hown7
      have hlow7 : ∀ i ∈ stBlks w3.heap.size hv ov, w3.heap.size ≤ i := stBlks_base HS6.out (Nat.le_refl _)
      have HS7 := Lib.hid hs7
      have K7 := Lib.hid (K6.out.trans' k7 (fun i hi => Or.inr (hlow7 i hi)))
      have HI7 := Lib.hid hin7
      have z7 := k7.size
      clear hown7 hs7 k7 hb7 hlow7 hin7
      have hol : out.length ≤ 1000000 := by
        rcases HN.out with ⟨_, rfl, _⟩ | ⟨_, rfl, _⟩
        · simp
        · rw [HLEN.out]; omega
      have HOC := Lib.hid (show ∀ p ∈ out, Clear p from by
        rcases HN.out with ⟨_, rfl, _⟩ | ⟨_, rfl, _⟩
        · simp
        · exact whole_clear HD.out)
      go_wp2_with fail
      refine (plainList_any a7 _ c7 out w7 HI7.out HOC.out hol).mono ?_
      rintro e w8 ⟨v8, rfl, hown8, k8⟩
      obtain ⟨a8, c8, rfl⟩ := hown8.shape
      have HO8 := Lib.hid hown8
      have HS8 := Lib.hid (HS7.out.keep0 k8)
      have K8 := Lib.hid (K7.out.trans k8)
      have z8 := k8.size
      clear hown8 k8
      rcases HN.out with ⟨hk1, rfl, hmk⟩ | ⟨hk1, rfl, rfl⟩
      · have HMK := Lib.hid hmk
        clear hmk
        go_wp2_with (at_builtin; go_must (refine app_evs_own rfl _ _ rfl w7.heap.size w7.heap.size (.slice none 0 0) _ [] [] rfl (OwnsEvs.nil _ _) rfl HO8.out (by simp) z8 ?_))
        intro v9 w9 hown9 hk9 hnil9 _hb
        have hnil9 : v9 = .slice none 0 0 := by simpa using hnil9
        subst hnil9
        have k9 : Keeps [] w8 w9 := hk9
        have HS9 := Lib.hid (HS8.out.keep0 k9)
        have K9 := Lib.hid (K8.out.trans k9)
        clear hown9 hk9 _hb k9
        go_wp2_with fail
        go_roundw
        case rel => exact ⟨k + 1, t, _, _, by omega, by go_num, HS9.out, HFIT2.out, K9.out, Or.inl ⟨hk1, HMK.out, rfl⟩⟩
        case measure => simp [intOf]; omega
      · have HTL := Lib.hid HLEN.out
        go_wp2_with (at_builtin; go_must (refine app_evs_own rfl _ _ rfl w3.heap.size w7.heap.size (.slice none 0 0) _ [] out rfl (OwnsEvs.nil _ _) rfl HO8.out (by simp; omega) (by omega) ?_))
        intro v9 w9 hown9 hk9 _ hb9
        have k9 : Keeps [] w8 w9 := hk9
        have HS9 := Lib.hid (HS8.out.keep0 k9)
        have K9 := Lib.hid (K8.out.trans k9)
        have HO9 := Lib.hid hown9
        clear hown9 hk9 hb9 k9
        go_wp2_with fail
        go_roundw
        case rel => exact ⟨k + 1, St.new 2000, _, _, by omega, by go_num, HS9.out, HFIT2.out, K9.out, Or.inr ⟨hk1, HO9.out, rfl⟩⟩
        case measure => simp [intOf]; omega
    · rcases hcase with ⟨h1, _⟩ | ⟨hke, hgot, hst⟩
      · omega
      subst hke hst
      have hLL := HLEN.out
      obtain ⟨o6, c6, e6, hin6⟩ := evsIn_of_owns (ownsRow_keeps HO3.out hK (by simp))
      simp only [Value.slice.injEq] at e6
      obtain ⟨rfl, _, rfl⟩ := e6
      obtain ⟨o7, c7, rfl, hin7⟩ := evsIn_of_owns hgot
      rw [hLL] at hin7 ⊢
      have hm6 := hin6.most
      have hm7 := hin7.most
      have hr6 := hin6.room
      have hr7 := hin7.room
      unfold maxLen at hm6 hm7
      have HS := Lib.hid hs
      have HK' := Lib.hid hK
      have HI6 := Lib.hid hin6
      have HI7 := Lib.hid hin7
      have hck := check_any o7 L.length c7 L' wr hin7 (by omega)
      rw [ck_whole HD.out] at hck
      have HCK := Lib.hid hck
      clear hgot hin6 hin7 hs hK hck hfit
      go_wp2_with fail
      refine (empty_any _ _ _ _ _ _ HS.out).mono ?_
      rintro e w6 ⟨rfl, rfl⟩
      simp only [St.new]
      go_wp2_with fail
      refine HCK.out.mono ?_
      rintro e w6 ⟨rfl, k6⟩
      have K6 := Lib.hid (HK'.out.trans k6)
      have HI6' := Lib.hid (HI6.out.keeps k6)
      have HI7' := Lib.hid (HI7.out.keeps k6)
      have c0 := Has.cell (HB.out.keeps K6.out (by simp)) 0
      simp only [List.getElem?_cons_zero] at c0
      have z6 := k6.size
      clear k6
      go_wp2_with fail
      obtain ⟨wo, rfl⟩ : ∃ wo : World, wo = wr := ⟨_, rfl⟩
      clear c0
      go_loopw [85] (fun i wx => ∃ k : Nat, k ≤ L.length ∧ i = .int .i64 k ∧ Keeps [] w6 wx) (fun i _ => L.length - (intOf i).toNat)
      case atStart => exact ⟨0, Nat.zero_le _, rfl, Keeps.refl _ _⟩
      case round =>
        obtain ⟨j, hj, rfl, hKx⟩ := hrel
        have c0 := Has.cell (HB.out.keeps (K6.out.trans hKx) (by simp)) 0
        simp only [List.getElem?_cons_zero] at c0
        have zx := hKx.size
        have hbx : w2.heap.size < wr.heap.size := by omega
        by_cases hlt : j < L.length
        · have hlt' : j < L'.length := by rw [HLEN.out]; exact hlt
          obtain ⟨b6, f6, rfl, q0, q1, q2, q3, q4⟩ := (HI6'.out.keeps hKx).get hlt hlt
          obtain ⟨b7, f7, rfl, g0, g1, g2, g3, g4⟩ := (HI7'.out.keeps hKx).get hlt hlt'
          have hal := (whole_alike HD.out).get hlt hlt'
          generalize L[j] = p at q0 q1 q2 q3 q4 hal
          generalize L'[j] = q at g0 g1 g2 g3 g4 hal
          have hji : (j : Int) < (L.length : Int) := by omega
          have hb6 : b6 < wr.heap.size := World.block_lt_of_cell? wr _ q0
          have hb7 : b7 < wr.heap.size := World.block_lt_of_cell? wr _ g0
          have HKx := Lib.hid hKx
          clear hKx
          have hne : ∀ W, (binOp .neq 34 (.agg #[.int .i64 p.kind, .bool p.yes, .int .u64 p.mag, .string p.text, .int .i64 p.count]) (.agg #[.int .i64 p.kind, .bool p.yes, .int .u64 p.mag, .string p.text, .int .i64 p.count])).run Try.prog W = .ok (.bool false) W := fun W => neq_ev p W
          unfold alike at hal
          by_cases hk : p.kind = 5 ∨ p.kind = 6
          · rw [if_pos hk] at hal
            obtain ⟨hk1, hk2⟩ := hal
            rw [hk1] at g0
            have hk3 : ¬ q.count < 0 := by omega
            have hk4 : decide (q.count < 0) = false := by simp; omega
            clear hne hk1
            rcases hk with hk | hk
            all_goals
              rw [hk] at g0 q0
              clear hk
              go_wp2_with fail
              go_quiet (fail)
              go_wp2_with fail
              go_roundw
              case rel => exact ⟨j + 1, by omega, by go_num, (HKx.out.alloc _).drewN _⟩
              case measure => simp [intOf]; omega
          · rw [if_neg hk] at hal
            subst hal
            have k5 : (q.kind == 5) = false := by simp; omega
            have k6 : (q.kind == 6) = false := by simp; omega
            clear hk
            go_wp2_with fail
            go_quiet (fail)
            go_wp2_with fail
            go_roundw
            case rel => exact ⟨j + 1, by omega, by go_num, (HKx.out.alloc _).drewN _⟩
            case measure => simp [intOf]; omega
        · obtain rfl : j = L.length := by omega
          have HKx := Lib.hid hKx
          clear hKx
          have hji : ¬ (L.length : Int) < (L.length : Int) := by omega
          go_wp2_with fail
          go_ret
          exact ⟨rfl, (K3.out.trans K6.out).trans HKx.out⟩
end Go.Proofs.Ytmhkgfddlkdmgaa
