/-
  StageMixed's walk.
-/
import Derived.Test.YtefdemebmibonaaStageNone
import Derived.Test.YtefdemebmibonaaDocAll
import Derived.Test.YtefdemebmibonaaStageMixPlain
import Derived.Test.YtefdemebmibonaaEvRow2
import Derived.Test.YtefdemebmibonaaSameEvs
namespace Go.Tru
theorem doc_tight' {p : Ev} (h : DocPart p) : p.loose = false := by
  unfold Ev.loose
  simp only [decide_eq_false_iff_not, not_and]
  intro hk
  have := h.2.1 hk
  omega
end Go.Tru
namespace Go.Proofs.Ytefdemebmibonaa
open Go.RowKit Go.Tru

def AllRel (d : List Ev) (n : Nat) (w4 : World) (v i : Value) (wr : World) : Prop :=
  ∃ k : Nat, k ≤ n ∧ i = .int .i64 k ∧ OwnsEvs wr w4.heap.size v (evArr (-1) :: manyOf d k) ∧ Keeps [] w4 wr

def MixRel (M T : List Ev) (K : Nat → St → Prop) (B b ga : Nat) (w : World) (va : Value) (v i : Value) (wr : World) : Prop :=
  ∃ (k : Nat) (s : St) (hv ov : Value), k ≤ M.length ∧ i = .int .i64 k ∧ StIn wr b b hv ov s ∧ s.Fit ∧ ga ∉ stBlks b hv ov ∧ OwnsEvs wr B va M ∧ Keeps [] w wr ∧
    ((k < M.length ∧ K k s ∧ v = .slice none 0 0) ∨ (k = M.length ∧ OwnsEvs wr B v T ∧ ga ∉ blks v))

set_option maxHeartbeats 3200000 in
set_option maxRecDepth 100000 in
theorem stageMixed_walk (o : Option Addr) (n c : Nat) (xs : List Int) (outer : Int) (w : World) (h : IntsIn w o n c xs) (_hb : -9223372036854775808 ≤ outer ∧ outer ≤ 9223372036854775807) :
    Calls Try.prog 5 #[.slice o n c, .int .i64 outer] w fun r w' => r = .returned (.bool true) ∧ Below w.heap.size w w' := by
  refine Calls.mono (R := fun r w' => r = .returned (.bool true) ∧ Keeps [] w w') ?_ (fun r w' h => ⟨h.1, h.2.all⟩)
  have m1 : n ≤ 9223372036854775807 := by have := h.room; have := h.most; unfold maxLen at *; omega
  have H := Lib.hid h
  clear h
  by_cases hn : 40 < n
  · go_enter Try.func5, Try.ntmps5
    go_wp2_with fail
    refine (alive_any w).mono ?_
    rintro e w1 ⟨rfl, k1⟩
    have K1 := Lib.hid k1
    clear k1
    go_wp2_with fail
    go_ret
    exact ⟨rfl, K1.out⟩
  have hn2 : n ≤ 40 := by omega
  clear hn
  obtain ⟨m, hm, hand⟩ : ∃ m : Nat, m ≤ 3 ∧ bits .and .i64 outer 3 = (m : Int) := ⟨(outer % 4).toNat, by omega, by rw [show (3 : Int) = ((2 ^ 2 - 1 : Nat) : Int) from rfl, i64_mask 2 (by decide)]; omega⟩
  go_enter Try.func5, Try.ntmps5
  go_wp2_with fail
  refine (alive_any w).mono ?_
  rintro e w1 ⟨rfl, k1⟩
  have K1 := Lib.hid k1
  have z1 := k1.size
  clear k1
  go_wp2_with fail
  refine (doc_any o n c xs 8 (by omega) (by omega) w1 (H.out.keeps K1.out)).mono ?_
  rintro e w2 ⟨v2, rfl, hown2, k2⟩
  obtain ⟨a2, c2, rfl⟩ := hown2.shape
  have hdl : (doc xs 8).length ≤ 2000 := by
    have h1 := docItem_len 8 xs
    have h2 := H.out.len
    unfold doc
    omega
  have HIT := Lib.hid (show Items 1 (doc xs 8) from items_doc 8 xs)
  have HDP := Lib.hid (show ∀ p ∈ doc xs 8, DocPart p ∧ p.loose = false from fun p hp => ⟨doc_parts 8 xs p hp, doc_tight' (doc_parts 8 xs p hp)⟩)
  generalize doc xs 8 = ds at hown2 hdl HIT HDP
  have K2 := Lib.hid (K1.out.trans k2)
  have HO2 := Lib.hid hown2
  have z2 := K2.out.size
  clear hown2 k2
  go_wp2_with fail
  refine (new_any 2000 w2).mono ?_
  rintro e w3 ⟨rfl, hs3, k3⟩
  rw [show min (max (2000 : Int) 0) 2000 = 2000 by decide] at hs3
  have HS3 := Lib.hid hs3
  have K3 := Lib.hid (K2.out.trans k3)
  have HO3 := Lib.hid (ownsRow_keeps HO2.out k3 (by simp))
  have z3 := k3.size
  clear hs3 k3 HO2
  go_wp2_with (at_builtin; go_must (refine app_evs rfl _ _ rfl w3.heap.size (.slice none 0 0) [] rfl (OwnsEvs.nil _ _) ⟨_, 0, none⟩ 1 1 [evArr (-1)] rfl rfl (new_evc (evArr (-1)) (by simp)) (by simp) (by simp) ?_))
  intro v4 w4 hown4 hk4 _hnil _hb
  obtain ⟨a4, c4, rfl⟩ := hown4.shape
  have k34 : Keeps [] w3 w4 := ((Keeps.refl [] w3).alloc _).trans hk4
  have HO4 := Lib.hid hown4
  have K34 := Lib.hid k34
  clear hown4 hk4 _hnil _hb k34
  simp only [List.length_cons, List.length_nil, Nat.zero_add] at *
  go_wp2_with fail
  go_loopw [8, 10] (fun v i wr => AllRel ds (m + 1) w3 v i wr) (fun _ i _ => m + 1 - (intOf i).toNat)
  case atStart => exact ⟨0, Nat.zero_le _, rfl, HO4.out, K34.out⟩
  case round =>
    obtain ⟨k, hk, rfl, hown, hK⟩ := hrel
    by_cases hlt : k < m + 1
    · have hki : (k : Int) < 1 + (m : Int) := by omega
      have hlo := World.ownsRow.lt hown
      have HLM := Lib.hid (many_len ds k)
      have hlk : k * ds.length ≤ 3 * 2000 := Nat.mul_le_mul (by omega) hdl
      have HO := Lib.hid hown
      have HK := Lib.hid hK
      clear hown hK
      go_wp2_with (at_builtin; go_must (refine app_evs_own rfl _ _ rfl w3.heap.size w1.heap.size _ _ (evArr (-1) :: manyOf ds k) ds rfl HO.out rfl (ownsRow_keeps HO3.out HK.out (by simp)) (by have := HLM.out; simp only [List.length_cons]; omega) HK.out.size ?_))
      intro v5 w5 hown5 hk5 _ _hb
      have HO5 := Lib.hid hown5
      have HK5 := Lib.hid hk5
      clear hown5 hk5 _hb
      go_wp2_with fail
      go_roundw
      case rel =>
        exact ⟨k + 1, by omega, by go_num, HO5.out, HK.out.trans' HK5.out (fun i hi => Or.inr (hlo i (mem_blks.1 hi)).1)⟩
      case measure => simp [intOf]; omega
    · obtain rfl : k = m + 1 := by omega
      have hki : ¬ ((m + 1 : Nat) : Int) < 1 + (m : Int) := by omega
      have hlo := World.ownsRow.lt hown
      have HLM := Lib.hid (many_len ds (m + 1))
      have hlk : (m + 1) * ds.length ≤ 4 * 2000 := Nat.mul_le_mul (by omega) hdl
      obtain ⟨ao, co, rfl⟩ := hown.shape
      have HO := Lib.hid hown
      have HK := Lib.hid hK
      have hz := hK.size
      clear hown hK hlt
      go_wp2_with (at_builtin; go_must (refine app_evs rfl _ _ rfl w3.heap.size _ (evArr (-1) :: manyOf ds (m + 1)) rfl (ownsRow_keeps HO.out ((Keeps.refl [] _).alloc _) (by simp)) ⟨_, 0, none⟩ 1 1 [evEnd] rfl rfl (new_evc evEnd (by simp)) (by have := HLM.out; simp only [List.length_cons]; omega) (by simp; omega) ?_))
      intro v5 w5 hown5 hk5 _ _hb
      have hown5 : OwnsEvs w5 w3.heap.size v5 (mixOf ds (m + 1)) := hown5
      obtain ⟨ga, ca, rfl, hga1, hga2, hr5, hm5, hfz⟩ := OwnsEvs.some_ hown5
      have k35 : Keeps [] w3 w5 := (HK.out.alloc _).trans' hk5 (fun i hi => Or.inr (hlo i (mem_blks.1 hi)).1)
      have hmx : (mixOf ds (m + 1)).length ≤ 10000 := by have := HLM.out; simp [mixOf]; omega
      have h2x : 2 ≤ (mixOf ds (m + 1)).length := by simp [mixOf]
      have hmx1 : (mixOf ds (m + 1)).length = (manyOf ds (m + 1) ++ [evEnd]).length + 1 := rfl
      rw [← hmx1] at hr5 hown5 ⊢
      clear hmx1
      have HO5 := Lib.hid hown5
      have K35 := Lib.hid k35
      have HIN5 := Lib.hid (show EvsIn w5 (some ⟨ga, 0, none⟩) (mixOf ds (m + 1)).length ca (mixOf ds (m + 1)) from by
        obtain ⟨o6, c6, e6, hin6⟩ := evsIn_of_owns hown5
        simp only [Value.slice.injEq] at e6
        obtain ⟨rfl, _, rfl⟩ := e6
        exact hin6)
      have HST := Lib.hid (fun (k : Nat) (s : St) (hk : k < (mixOf ds (m + 1)).length) (hs : MixK ds (m + 1) k s) => mix_round HIT.out HDP.out hk hs)
      have HCL := Lib.hid (show ∀ p ∈ mixOf ds (m + 1), Clear p ∧ p.text.size ≤ 28 from fun p hp => by
        simp only [mixOf, List.mem_cons, List.mem_append, List.not_mem_nil, or_false] at hp
        rcases hp with rfl | hp | rfl
        · exact ⟨Or.inr (Or.inr (Or.inr (Or.inr (Or.inr (Or.inl ⟨-1, by omega, rfl⟩))))), by decide⟩
        · have := many_all HDP.out (m + 1) p hp
          exact ⟨this.1.1, this.1.2.2⟩
        · exact ⟨Or.inr (Or.inr (Or.inr (Or.inr (Or.inr (Or.inr (Or.inr rfl)))))), by decide⟩)
      have HTO := Lib.hid (show (mixOf ds (m + 1)).length = (mixTo ds (m + 1)).length from rfl)
      have HTO2 := Lib.hid (show ∀ p ∈ mixTo ds (m + 1), Clear p from fun p hp => by
        simp only [mixTo, List.mem_cons, List.mem_append, List.not_mem_nil, or_false] at hp
        rcases hp with rfl | hp | rfl
        · exact Or.inr (Or.inr (Or.inr (Or.inr (Or.inr (Or.inl ⟨((m + 1 : Nat) : Int), by omega, rfl⟩)))))
        · exact (many_all HDP.out (m + 1) p hp).1.1
        · exact Or.inr (Or.inr (Or.inr (Or.inr (Or.inr (Or.inr (Or.inr rfl)))))))
      have HSET := Lib.hid (fun (W : World) (B : Nat) (h : OwnsEvs W B (.slice (some ⟨ga, 0, none⟩) (mixOf ds (m + 1)).length ca) (mixOf ds (m + 1))) => (show OwnsEvs (W.setCell ⟨ga, 4, none⟩ (.int .i64 ((m + 1 : Nat) : Int))) B (.slice (some ⟨ga, 0, none⟩) (mixOf ds (m + 1)).length ca) (mixTo ds (m + 1)) from OwnsEvs.setCount h _))
      have z5 := k35.size
      have hm63 := hm5
      unfold maxLen at hm63
      generalize hM : mixOf ds (m + 1) = M at *
      generalize hT : mixTo ds (m + 1) = T at *
      go_wp2_with fail
      go_loopw [9, 52] (fun v i wr => MixRel M T (MixK ds (m + 1)) w3.heap.size w2.heap.size ga w (.slice (some ⟨ga, 0, none⟩) M.length ca) v i wr) (fun _ i _ => M.length - (intOf i).toNat)
      case atStart =>
        exact ⟨0, St.new 2000, _, _, Nat.zero_le _, rfl, HS3.out.keep0 K35.out, fit_new (by omega), by have := HS3.out.base_lt; simp [stBlks, blks_nil]; omega, HO5.out, K3.out.trans K35.out, Or.inl ⟨by omega, Or.inl ⟨rfl, rfl⟩, rfl⟩⟩
      case round =>
        obtain ⟨k, s, hv, ov, hk, rfl, hs, hfit, hga, hall, hK, hcase⟩ := hrel
        have hbl := hs.base_lt
        have hzw := hK.size
        by_cases hlt : k < M.length
        · rcases hcase with ⟨_, hmk, rfl⟩ | ⟨h1, _⟩
          rotate_left 1
          · omega
          have hpc := HCL.out _ (List.getElem_mem hlt)
          have hinr : EvsIn wr (some ⟨ga, 0, none⟩) M.length ca M := by
            obtain ⟨o6, c6, e6, hin6⟩ := evsIn_of_owns hall
            simp only [Value.slice.injEq] at e6
            obtain ⟨rfl, _, rfl⟩ := e6
            exact hin6
          obtain ⟨b5, f5, he5, q0, q1, q2, q3, q4⟩ := hinr.get hlt hlt
          simp only [Option.some.injEq, Addr.mk.injEq, and_true] at he5
          obtain ⟨rfl, rfl⟩ := he5
          simp only [Nat.zero_add] at q0 q1 q2 q3 q4
          obtain ⟨out, t, hst, hnext⟩ := HST.out k s hlt hmk
          have HFIT := Lib.hid hfit
          have hfit2 := fit_step hfit hpc.1
          rw [hst] at hfit2
          have HFIT2 := Lib.hid hfit2
          generalize M[k] = p at q0 q1 q2 q3 q4 hpc hst
          have HT2 := Lib.hid (clear_tidy hpc.1)
          have HPC := Lib.hid hpc
          have HSTEP := Lib.hid hst
          have HS := Lib.hid hs
          have HALL := Lib.hid hall
          have HK' := Lib.hid hK
          have HGA := Lib.hid hga
          have hki : (k : Int) < (M.length : Int) := by omega
          clear hpc hst hfit hfit2 hs hall hK hga hinr hmk
          obtain ⟨pv, hpv⟩ : ∃ pv, p.part = pv := ⟨_, rfl⟩
          have HPV := Lib.hid hpv
          have HN := Lib.hid hnext
          clear hpv hnext
          go_wp2_with fail
          refine (of_yes p p _ HT2.out).mono ?_
          rintro e w6 ⟨rfl, k6⟩
          rw [HPV.out]
          have HS6 := Lib.hid (HS.out.keep0 k6)
          have HALL6 := Lib.hid (ownsRow_keeps HALL.out k6 (by simp))
          have K6 := Lib.hid (HK'.out.trans k6)
          have z6 := k6.size
          clear k6
          go_wp2_with fail
          have hst := step_any s p HPC.out.1 (by have := HPC.out.2; omega) w6 w2.heap.size w2.heap.size _ _ HS6.out HFIT.out (by omega)
          rw [HPV.out, HSTEP.out] at hst
          refine hst.mono ?_
          clear hst
          rintro e w7 ⟨v7, rfl, hown7, hv7, ov7, hs7, k7, hb7⟩
          obtain ⟨a7, c7, rfl, hin7⟩ := anysIn_of_owns hown7
          have hga6 : ga < w6.heap.size := by have := (World.ownsRow.lt HALL6.out ga rfl).2; omega
          have hlow : ∀ i ∈ stBlks w2.heap.size hv ov, w2.heap.size ≤ i := stBlks_base HS6.out (Nat.le_refl _)
          have HS7 := Lib.hid hs7
          have HGA7 := Lib.hid (show ga ∉ stBlks w2.heap.size hv7 ov7 from fun hm => (hb7 ga hm).elim HGA.out (fun h => by omega))
          have HALL7 := Lib.hid (ownsRow_keeps HALL6.out k7 (fun i hi hm => by
            simp only [Value.ownBlock, Option.some.injEq] at hi
            exact HGA.out (hi ▸ hm)))
          have K7 := Lib.hid (K6.out.trans' k7 (fun i hi => Or.inr (Nat.le_trans z2 (hlow i hi))))
          have HI7 := Lib.hid hin7
          have z7 := k7.size
          clear hown7 hs7 k7 hb7 hlow hin7
          have hol : out.length ≤ 1000000 := by
            rcases HN.out with ⟨_, rfl⟩ | ⟨_, _, rfl, _⟩ | ⟨_, h2, rfl⟩
            · simp
            · simp
            · rw [← HTO.out]; omega
          have hoc : ∀ p ∈ out, Clear p := by
            rcases HN.out with ⟨_, rfl⟩ | ⟨_, _, rfl, _⟩ | ⟨_, _, rfl⟩
            · simp
            · simp
            · exact HTO2.out
          have HOC := Lib.hid hoc
          clear hoc
          go_wp2_with fail
          refine (plainList_any a7 _ c7 out w7 HI7.out HOC.out hol).mono ?_
          rintro e w8 ⟨v8, rfl, hown8, k8⟩
          obtain ⟨a8, c8, rfl⟩ := hown8.shape
          have HO8 := Lib.hid hown8
          have HS8 := Lib.hid (HS7.out.keep0 k8)
          have HALL8 := Lib.hid (ownsRow_keeps HALL7.out k8 (by simp))
          have K8 := Lib.hid (K7.out.trans k8)
          have z8 := k8.size
          clear hown8 k8
          rcases HN.out with ⟨hte, rfl⟩ | ⟨hte, hk1, rfl, hmk⟩ | ⟨hte, hk1, rfl⟩
          · simp only [hte]
            go_wp2_with fail
            go_ret
            exact ⟨rfl, K8.out⟩
          · simp only [hte, List.length_nil]
            have HMK := Lib.hid hmk
            clear hmk hte
            go_wp2_with (at_builtin; go_must (refine app_evs_own rfl _ _ rfl w7.heap.size w7.heap.size (.slice none 0 0) _ [] [] rfl (OwnsEvs.nil _ _) rfl HO8.out (by simp) z8 ?_))
            intro v9 w9 hown9 hk9 hnil9 _hb
            subst hnil9
            have k9 : Keeps [] w8 w9 := hk9
            have HS9 := Lib.hid (HS8.out.keep0 k9)
            have HALL9 := Lib.hid (ownsRow_keeps HALL8.out k9 (by simp))
            have K9 := Lib.hid (K8.out.trans k9)
            clear hown9 hk9 _hb k9
            go_wp2_with fail
            go_roundw
            case rel => exact ⟨k + 1, t, _, _, by omega, by go_num, HS9.out, HFIT2.out, HGA7.out, HALL9.out, K9.out, Or.inl ⟨hk1, HMK.out, rfl⟩⟩
            case measure => simp [intOf]; omega
          · simp only [hte]
            have hTl : out.length = M.length := HTO.out.symm
            have hnk : ¬ (k : Int) < (M.length : Int) - 1 := by omega
            have hTz : (0 : Int) < (M.length : Int) := by omega
            have HTL := Lib.hid hTl
            rw [hTl]
            clear hte hTl
            go_wp2_with (at_builtin; go_must (refine app_evs_own rfl _ _ rfl w3.heap.size w7.heap.size (.slice none 0 0) _ [] out rfl (OwnsEvs.nil _ _) rfl (by have h8 := HO8.out; rw [HTL.out] at h8; exact h8) (by have := HTL.out; simp; omega) (by omega) ?_))
            intro v9 w9 hown9 hk9 _ hb9
            have k9 : Keeps [] w8 w9 := hk9
            have HS9 := Lib.hid (HS8.out.keep0 k9)
            have HALL9 := Lib.hid (ownsRow_keeps HALL8.out k9 (by simp))
            have K9 := Lib.hid (K8.out.trans k9)
            have HGA9 := Lib.hid (show ga ∉ blks v9 from fun hm => by
              rw [mem_blks] at hm
              rcases hb9 with h1 | h1
              · rw [h1] at hm; simp [Value.ownBlock] at hm
              · rw [h1] at hm; injection hm with hm; omega)
            have HO9 := Lib.hid hown9
            clear hown9 hk9 hb9 k9
            go_wp2_with fail
            go_roundw
            case rel => exact ⟨k + 1, t, _, _, by omega, by go_num, HS9.out, HFIT2.out, HGA7.out, HALL9.out, K9.out, Or.inr ⟨hk1, HO9.out, HGA9.out⟩⟩
            case measure => simp [intOf]; omega
        · rcases hcase with ⟨h1, _⟩ | ⟨hke, hgot, hgb⟩
          · omega
          subst hke
          obtain ⟨go, gc, rfl⟩ := hgot.shape
          have hTl := HTO.out
          have HK' := Lib.hid hK
          have hfzr := World.ownsRow.frozenAt hall (g := ga) 4
          have hgl : ga < wr.heap.size := (World.ownsRow.lt hall ga rfl).2
          have hc4 : wr.cell? ⟨ga, 4, none⟩ = some (.int .i64 (-1)) := by
            rw [World.ownsRow.cellAt hall 4 (by omega), ← hM]
            rfl
          have hset := HSET.out wr _ hall
          have hgot2 := ownsRow_keeps hgot ((Keeps.refl [ga] wr).set1 (i := 4) (.int .i64 ((m + 1 : Nat) : Int))) (fun i hi hm => by rw [List.mem_singleton] at hm; exact hgb (hm ▸ mem_blks.2 hi))
          obtain ⟨wx, hwx⟩ : ∃ wx, wr.setCell ⟨ga, 4, none⟩ (.int .i64 ((m : Int) + 1)) = wx := ⟨_, rfl⟩
          have hwx2 : wr.setCell ⟨ga, 4, none⟩ (.int .i64 (1 + (m : Int))) = wx := by rw [Int.add_comm]; exact hwx
          rw [show (((m + 1 : Nat) : Int)) = (m : Int) + 1 by omega, hwx] at hset hgot2
          have hkx : Keeps [] w wx := by rw [← hwx]; exact HK'.out.setCell (Or.inr (by have := K3.out.size; show w.heap.size ≤ ga; omega)) _
          obtain ⟨o6, c6, e6, hin6⟩ := evsIn_of_owns hset
          obtain ⟨o7, c7, e7, hin7⟩ := evsIn_of_owns hgot2
          simp only [Value.slice.injEq] at e6 e7
          obtain ⟨rfl, _, rfl⟩ := e6
          obtain ⟨rfl, _, rfl⟩ := e7
          have HI6 := Lib.hid hin6
          have HI7 := Lib.hid hin7
          have HWX := Lib.hid hwx2
          have HKX := Lib.hid hkx
          have hlM : (0 : Int) < (M.length : Int) := by omega
          clear hset hgot2 hin6 hin7 hwx hwx2 hkx hgot hall hs hK hga hgb hTl hfit
          go_wp2_with fail
          rw [HWX.out]
          go_wp2_with fail
          have hsame := sameEvs_yes _ _ _ _ _ T wx HI7.out HI6.out
          refine hsame.mono ?_
          rintro e w9 ⟨rfl, k9⟩
          have K9 := Lib.hid (HKX.out.trans k9)
          clear k9
          go_wp2_with fail
          go_ret
          exact ⟨rfl, K9.out⟩
end Go.Proofs.Ytefdemebmibonaa
