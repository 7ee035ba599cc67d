/-
  StageLimits' walk.
-/
import Derived.Test.YtefdemebmibonaaStageNone
import Derived.Test.YtefdemebmibonaaDocAll
import Derived.Test.YtefdemebmibonaaBookOpen
import Derived.Test.YtefdemebmibonaaStageLimPlain2
namespace Go.Tru
/-- a document with counts that are not known is a leaf, or a container -/
theorem open_doc (xs : List Int) (k : Nat) :
    (∃ p, (doc xs k).map openEv = [p] ∧ p.kind ≠ 5 ∧ p.kind ≠ 6) ∨
    ∃ p m l, (doc xs k).map openEv = p :: (l ++ [evEnd]) ∧ isOpen p = true ∧ p.loose = true ∧ Items m l := by
  rcases items_one (items_doc k xs) with ⟨p, h1, h2, h3⟩ | ⟨p, m, i, h1, h2, h3⟩
  · refine Or.inl ⟨openEv p, by unfold doc; rw [h1]; rfl, ?_⟩
    rw [openEv_kind]
    simp only [isOpen, decide_eq_false_iff_not] at h2
    omega
  · refine Or.inr ⟨openEv p, m, i.map openEv, by unfold doc; rw [h1]; simp [openEv_end], by rw [openEv_isOpen]; exact h2, openEv_loose h2, items_map h3⟩
theorem lim_told {L : Int} {ds : List Ev} {k : Nat} {tv : Int} {s : St} (h : LimK L ds k tv s) : 0 ≤ tv ∧ tv ≤ ds.length := by
  obtain ⟨_, ⟨_, _, rfl⟩ | ⟨_, _, _, rfl⟩ | ⟨_, h, _⟩⟩ := h
  · omega
  · omega
  · omega
end Go.Tru
namespace Go.Proofs.Ytefdemebmibonaa
open Go.RowKit Go.Tru

def NeedRel (ds : List Ev) (w3 : World) (v i : Value) (wr : World) : Prop :=
  ∃ k : Nat, k < ds.length ∧ i = .int .i64 k ∧ v = .int .i64 (sizes (ds.take k)) ∧ Keeps [] w3 wr

def LimitsRel (L : Int) (ds : List Ev) (B : Nat) (w : World) (v i : Value) (wr : World) : Prop :=
  ∃ (k : Nat) (tv : Int) (s : St) (hv ov : Value), k ≤ ds.length ∧ i = .int .i64 k ∧ v = .int .i64 tv ∧ (0 ≤ tv ∧ tv ≤ ds.length) ∧ StIn wr B B hv ov s ∧ LimK L ds k tv s ∧ Keeps [] w wr

set_option maxHeartbeats 3200000 in
set_option maxRecDepth 100000 in
theorem stageLimits_walk (o : Option Addr) (n c : Nat) (xs : List Int) (less : Int) (w : World) (h : IntsIn w o n c xs) (hless : -9223372036854775808 ≤ less ∧ less ≤ 9223372036854775807) :
    Calls Try.prog 4 #[.slice o n c, .int .i64 less] w fun r w' => r = .returned (.bool true) ∧ Below w.heap.size w w' := by
  refine Calls.mono (R := fun r w' => r = .returned (.bool true) ∧ Keeps [] w w') ?_ (fun r w' h => ⟨h.1, h.2.all⟩)
  have m1 : n ≤ 9223372036854775807 := by have := h.room; have := h.most; unfold maxLen at *; omega
  have H := Lib.hid h
  clear h
  by_cases hlong : 60 < n ∨ ¬ 60 < n ∧ less < 0 ∨ ¬ 60 < n ∧ ¬ less < 0 ∧ 20 < less
  · rcases hlong with h | ⟨h, h'⟩ | ⟨h, h', h''⟩
    all_goals
      go_enter Try.func4, Try.ntmps4
      go_wp2_with fail
      refine (alive_any w).mono ?_
      rintro e w1 ⟨rfl, k1⟩
      have K1 := Lib.hid k1
      clear k1
      go_wp2_with fail
      go_ret
      exact ⟨rfl, K1.out⟩
  have hn : n ≤ 60 := by omega
  have hl0 : 0 ≤ less := by omega
  have hl1 : less ≤ 20 := by omega
  clear hlong
  go_enter Try.func4, Try.ntmps4
  go_wp2_with fail
  refine (alive_any w).mono ?_
  rintro e w1 ⟨rfl, k1⟩
  have K1 := Lib.hid k1
  have z1 := k1.size
  clear k1
  go_wp2_with fail
  refine (doc_any o n c xs 8 (by omega) (by omega) w1 (H.out.keeps K1.out)).mono ?_
  rintro e w2 ⟨v2, rfl, hown2, k2⟩
  obtain ⟨o2, c2, rfl, hin2⟩ := evsIn_of_owns hown2
  have hdl : (doc xs 8).length ≤ 2000 := by
    have h1 := docItem_len 8 xs
    have h2 := H.out.len
    unfold doc
    omega
  have K2 := Lib.hid (K1.out.trans k2)
  have HI2 := Lib.hid hin2
  clear hown2 k2 hin2
  go_wp2_with fail
  refine (bookOpen_any o2 _ c2 _ w2 HI2.out (by omega)).mono ?_
  rintro e w3 ⟨v3, rfl, hown3, k3⟩
  obtain ⟨o3, c3, rfl, hin3⟩ := evsIn_of_owns hown3
  have hform := open_doc xs 8
  have HCL := Lib.hid (show ∀ p ∈ (doc xs 8).map openEv, Clear p ∧ p.text.size ≤ 28 from fun p hp => by
    obtain ⟨q, hq, rfl⟩ := List.mem_map.1 hp
    have h1 := doc_parts 8 xs q hq
    exact ⟨openEv_clear h1.1, by rw [openEv_text]; exact h1.2.2⟩)
  have hdl2 : ((doc xs 8).map openEv).length ≤ 2000 := by rw [List.length_map]; exact hdl
  generalize (doc xs 8).map openEv = ds at hin3 hdl2 HCL hform
  have K3 := Lib.hid (K2.out.trans k3)
  have z3 := K3.out.size
  have HI3 := Lib.hid hin3
  have hr3 := hin3.room
  have hm3 := hin3.most
  unfold maxLen at hm3
  clear hown3 k3 hdl HI2
  rcases hform with ⟨p, rfl, h5, h6⟩ | ⟨p0, m, l, hds, ho, hlo, hit⟩
  · obtain ⟨b1, f1, rfl, g0, g1, g2, g3, g4⟩ := hin3.get (k := 0) (by simp) (by simp)
    have h5' : (p.kind != 5) = true := by simpa using h5
    have h6' : (p.kind != 6) = true := by simpa using h6
    simp only [Nat.zero_mul, Nat.add_zero, List.getElem_cons_zero] at g0
    clear hin3 h5 h6 g1 g2 g3 g4
    simp only [List.length_cons, List.length_nil] at *
    go_wp2_with fail
    go_ret
    exact ⟨rfl, K3.out⟩
  · have hl2 : 2 ≤ ds.length := by rw [hds]; simp
    have hlast : ds.length = l.length + 2 := by rw [hds]; simp
    have hd0 : ∀ (h : 0 < ds.length), ds[0] = p0 := by rw [hds]; intro _; rfl
    have hk0 : p0.kind = 5 ∨ p0.kind = 6 := by simpa [isOpen] using ho
    obtain ⟨b1, f1, rfl, g0, g1, g2, g3, g4⟩ := hin3.get (k := 0) (by omega) (by omega)
    rw [hd0 (by omega)] at g0
    simp only [Nat.zero_mul, Nat.add_zero] at g0
    clear g1 g2 g3 g4 hd0
    have HDS := Lib.hid hds
    have HIT := Lib.hid hit
    have HO := Lib.hid ho
    have HLO := Lib.hid hlo
    clear hds hit ho hlo hin3 hlast
    have hszp := sizes_pos (ds.take (ds.length - 1))
    have hszm : sizes (ds.take (ds.length - 1)) ≤ 100000 := by
      have := sizes_le (ds.take (ds.length - 1)) (fun p hp => by have := (HCL.out p (List.mem_of_mem_take hp)).2; unfold Ev.size; omega)
      rw [List.length_take] at this
      omega
    rcases hk0 with hk0 | hk0
    all_goals
      rw [hk0] at g0
      clear hk0
      go_wp2_with fail
      go_loopw [6, 7] (fun v i wr => NeedRel ds w3 v i wr) (fun _ i _ => ds.length - (intOf i).toNat)
      case atStart => exact ⟨0, by omega, rfl, rfl, Keeps.refl _ _⟩
      case round =>
        obtain ⟨k, hk, rfl, rfl, hK⟩ := hrel
        have hs0 := sizes_pos (ds.take k)
        by_cases hlt : k + 1 < ds.length
        · have hx : k < ds.length := by omega
          have hs1 := sizes_snoc hx
          have hs2 := sizes_mono ds (i := k + 1) (j := ds.length - 1) (by omega)
          have hpc := HCL.out _ (List.getElem_mem hx)
          obtain ⟨b5, f5, he5, q0, q1, q2, q3, q4⟩ := (HI3.out.keeps hK).get hx hx
          simp only [Option.some.injEq, Addr.mk.injEq, and_true] at he5
          obtain ⟨rfl, rfl⟩ := he5
          have HK := Lib.hid hK
          clear hK
          generalize hae : ds[k] = p at q0 q1 q2 q3 q4 hs1 hpc
          have hps : p.text.size ≤ maxLen - 1 := by have := hpc.2; unfold maxLen; omega
          have HT := Lib.hid (clear_tidy hpc.1)
          have hsiz := fun W => size_any p hpc.1 hps W
          have hp1 := size_pos p
          have HS1 := Lib.hid hs1
          have hki : (k : Int) < (ds.length : Int) - 1 := by omega
          obtain ⟨sk, hsk⟩ : ∃ sk, sk = sizes (ds.take k) := ⟨_, rfl⟩
          have hb1 : sk + p.size ≤ 100000 := by omega
          rw [← hsk] at hs0 ⊢
          have HSK := Lib.hid hsk
          clear hae hps hpc hs1 hs2 hsk
          obtain ⟨pv, hpv⟩ : ∃ pv, p.part = pv := ⟨_, rfl⟩
          rw [hpv] at hsiz
          have HPV := Lib.hid hpv
          have HSIZ := Lib.hid hsiz
          clear hpv hsiz
          go_wp2_with fail
          refine (of_yes p p _ HT.out).mono ?_
          rintro e w5 ⟨rfl, k5⟩
          rw [HPV.out]
          have HK5 := Lib.hid (HK.out.trans k5)
          clear k5
          go_wp2_with fail
          refine (HSIZ.out _).mono ?_
          rintro e w6 ⟨rfl, k6⟩
          have HK6 := Lib.hid (HK5.out.trans k6)
          clear k6
          go_wp2_with fail
          go_roundw
          case rel => exact ⟨k + 1, by omega, by go_num, by rw [HS1.out, ← HSK.out], HK6.out⟩
          case measure => simp [intOf]; omega
        · have hke : k = ds.length - 1 := by omega
          have hki : ¬ (k : Int) < (ds.length : Int) - 1 := by omega
          have HK := Lib.hid hK
          clear hK
          rw [hke] at hs0 ⊢
          have hki : ¬ ((ds.length - 1 : Nat) : Int) < (ds.length : Int) - 1 := by omega
          clear hke hlt
          obtain ⟨nd, hnd⟩ : ∃ nd, nd = sizes (ds.take (ds.length - 1)) := ⟨_, rfl⟩
          rw [← hnd] at hs0 hszm hszp ⊢
          have HND := Lib.hid hnd
          clear hnd
          obtain ⟨wo, rfl⟩ : ∃ wo : World, wo = wr := ⟨_, rfl⟩
          rcases (show 2000 < nd ∨ ¬ 2000 < nd ∧ nd - less < 0 ∨ ¬ 2000 < nd ∧ ¬ nd - less < 0 by omega) with hq | ⟨hq, hq2⟩ | ⟨hq, hq2⟩
          · go_wp2_with fail
            go_ret
            exact ⟨rfl, K3.out.trans HK.out⟩
          · go_wp2_with fail
            go_ret
            exact ⟨rfl, K3.out.trans HK.out⟩
          · obtain ⟨L, hL⟩ : ∃ L, nd - less = L := ⟨_, rfl⟩
            have hL1 : 0 ≤ L ∧ L ≤ 2000 := by omega
            have HL := Lib.hid (show L = sizes (ds.take (ds.length - 1)) - less by rw [← HND.out]; omega)
            have hmin : min (max L 0) 2000 = L := by omega
            have hz := HK.out.size
            go_wp2_with fail
            refine (new_any _ _).mono ?_
            rintro e w5 ⟨rfl, hs5, k5⟩
            rw [hmin] at hs5
            have HS5 := Lib.hid hs5
            have HK5 := Lib.hid (HK.out.trans k5)
            have z5 := k5.size
            have zb := hs5.base_lt
            clear hs5 k5
            go_wp2_with fail
            go_loopw [11, 85] (fun v i wr' => LimitsRel L ds wo.heap.size w3 v i wr') (fun _ i _ => ds.length - (intOf i).toNat)
            case atStart => exact ⟨0, 0, _, _, _, Nat.zero_le _, rfl, rfl, by omega, HS5.out, ⟨fit_new hL1, Or.inl ⟨rfl, rfl, rfl⟩⟩, HK5.out⟩
            case round =>
              obtain ⟨k', tv, s, hv, ov, hk', rfl, rfl, htv, hs, hlk, hK⟩ := hrel
              have HS := Lib.hid hs
              have HK' := Lib.hid hK
              have hzr := hK.size
              have hbl := hs.base_lt
              clear hs hK
              obtain ⟨htv0, htv1⟩ := htv
              by_cases hlt : k' < ds.length
              · have hpc := HCL.out _ (List.getElem_mem hlt)
                obtain ⟨b5, f5, he5, q0, q1, q2, q3, q4⟩ := (HI3.out.keeps HK'.out).get hlt hlt
                simp only [Option.some.injEq, Addr.mk.injEq, and_true] at he5
                obtain ⟨rfl, rfl⟩ := he5
                obtain ⟨out, t, hst, hnext⟩ := lim_round hL1 HDS.out HO.out HLO.out HIT.out (fun p hp => (HCL.out p hp).1) HL.out hlk hlt
                have hfit := hlk.1
                have HFIT := Lib.hid hfit
                clear hlk hfit
                generalize ds[k'] = p at q0 q1 q2 q3 q4 hpc hst
                have HT := Lib.hid (clear_tidy hpc.1)
                have HPC := Lib.hid hpc
                have HST := Lib.hid hst
                have hki : (k' : Int) < (ds.length : Int) := by omega
                clear hpc hst
                obtain ⟨pv, hpv⟩ : ∃ pv, p.part = pv := ⟨_, rfl⟩
                have HPV := Lib.hid hpv
                have HN := Lib.hid hnext
                clear hpv hnext
                go_wp2_with fail
                refine (of_yes p p _ HT.out).mono ?_
                rintro e w6 ⟨rfl, k6⟩
                rw [HPV.out]
                have HS6 := Lib.hid (HS.out.keep0 k6)
                have K6 := Lib.hid (HK'.out.trans k6)
                have z6 := k6.size
                clear k6
                go_wp2_with fail
                have hst := stepped s p HPC.out.1 (by have := HPC.out.2; omega) w3 w6 wo.heap.size wo.heap.size _ _ HS6.out HFIT.out (by omega) (Nat.le_refl _) (by omega) K6.out
                rw [HPV.out, HST.out] at hst
                refine hst.mono ?_
                clear hst
                rintro e w7 ⟨v7, hv7, ov7, rfl, hown7, h7, k7, b7, z7⟩
                obtain ⟨a7, c7, rfl⟩ := hown7.shape
                have HS7 := Lib.hid h7
                have K7 := Lib.hid k7
                clear hown7 h7 k7 b7
                have hnext := HN.out
                rcases hnext with ⟨rfl, rfl, hl, rfl⟩ | ⟨hte, htz, hol, hlk⟩
                · simp only [List.length_nil, stBad] at *
                  have hLn : ¬ L < 0 := by omega
                  go_wp2_with fail
                  refine (held_any _ _ _ _ _ _ HS7.out).mono ?_
                  rintro e w8 ⟨rfl, rfl⟩
                  simp only []
                  go_wp2_with fail
                  have hst := stepped stBad evNull (Or.inl rfl) (by decide) w3 w7 wo.heap.size wo.heap.size _ _ HS7.out fit_bad (by omega) (Nat.le_refl _) (by omega) K7.out
                  rw [part_null, stBad_step] at hst
                  refine hst.mono ?_
                  clear hst
                  rintro e w9 ⟨v9, hv9, ov9, rfl, hown9, h9, k9, b9, z9⟩
                  obtain ⟨a9, c9, rfl⟩ := hown9.shape
                  have HS9 := Lib.hid h9
                  have K9 := Lib.hid k9
                  clear hown9 h9 k9 b9
                  simp only [List.length_nil]
                  go_wp2_with fail
                  refine (held_any _ _ _ _ _ _ HS9.out).mono ?_
                  rintro e w10 ⟨rfl, rfl⟩
                  simp only []
                  go_wp2_with fail
                  refine (empty_any _ _ _ _ _ _ HS9.out).mono ?_
                  rintro e w11 ⟨rfl, rfl⟩
                  simp only [stBad]
                  go_wp2_with fail
                  go_ret
                  exact ⟨rfl, K3.out.trans K9.out⟩
                · simp only [hte]
                  have HLK := Lib.hid hlk
                  have hLn : ¬ L < t.size := by omega
                  clear hlk hte
                  go_wp2_with fail
                  refine (held_any _ _ _ _ _ _ HS7.out).mono ?_
                  rintro e w8 ⟨rfl, rfl⟩
                  simp only []
                  go_wp2_with fail
                  go_roundw
                  case rel => exact ⟨k' + 1, tv + out.length, t, _, _, by omega, by go_num, rfl, lim_told HLK.out, HS7.out, HLK.out, K7.out⟩
                  case measure => simp [intOf]; omega
              · obtain ⟨hf, ⟨h1, _⟩ | ⟨_, h1, _⟩ | ⟨h1, h2, h3⟩⟩ := hlk
                · omega
                · omega
                · have hls : less = 0 := by have := HL.out; omega
                  have htv' : tv = (ds.length : Int) := h2
                  subst hls htv' h1
                  go_wp2_with fail
                  go_ret
                  exact ⟨rfl, K3.out.trans HK'.out⟩
end Go.Proofs.Ytefdemebmibonaa
