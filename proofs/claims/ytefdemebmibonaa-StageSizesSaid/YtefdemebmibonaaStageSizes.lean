/-
  StageSizes' walk.
-/
import Derived.Test.YtefdemebmibonaaStageNone
namespace Go.Tru
def szSum (ps : List Ev) : Int := 1 + (ps.map Ev.size).sum
def szSt (ps : List Ev) : St := ⟨2000, evArr (-1) :: ps, szSum ps, [⟨0, ps.length⟩], 0⟩

theorem szSum_snoc (ps : List Ev) (p : Ev) : szSum (ps ++ [p]) = szSum ps + p.size := by
  unfold szSum
  rw [List.map_append, List.sum_append]
  simp
  omega

theorem szSum_bound {ps : List Ev} (h : ∀ p ∈ ps, Clear p ∧ p.text.size ≤ 25) : (ps.length : Int) + 1 ≤ szSum ps ∧ szSum ps ≤ 1 + 26 * (ps.length : Int) := by
  unfold szSum
  induction ps with
  | nil => simp
  | cons p ps ih =>
    have h1 := ih (fun q hq => h q (List.mem_cons_of_mem _ hq))
    have h2 := (h p (List.mem_cons_self ..)).2
    have h3 : p.size = 1 + (p.text.size : Int) := rfl
    simp only [List.map_cons, List.sum_cons, List.length_cons]
    omega

theorem szSt_fit {ps : List Ev} (h : ∀ p ∈ ps, Clear p ∧ p.text.size ≤ 25) (hl : ps.length ≤ 60) : (szSt ps).Fit := by
  have hb := szSum_bound h
  refine ⟨by simp [szSt], ⟨?_, ?_⟩, ?_, by simp [szSt], by simp [szSt], by simp [szSt]⟩
  · simp only [szSt, List.length_cons]; omega
  · simp only [szSt]; omega
  · intro c hc
    simp only [szSt, List.mem_singleton] at hc
    subst hc
    refine ⟨⟨evArr (-1), rfl, Or.inr (Or.inr (Or.inr (Or.inr (Or.inr (Or.inl ⟨-1, by omega, rfl⟩))))), rfl⟩, ?_, ?_⟩
    · simp only []; omega
    · simp only [szSt, List.length_cons]; omega

theorem szSt_step {ps : List Ev} (h : ∀ p ∈ ps, Clear p ∧ p.text.size ≤ 25) (hl : ps.length < 60) {p : Ev} (hp : p.text.size ≤ 25) (hk : p.kind < 5) : (szSt ps).step p = ([], 0, szSt (ps ++ [p])) := by
  have hb := szSum_bound h
  have h3 : p.size = 1 + (p.text.size : Int) := rfl
  have h7 : p.kind ≠ 7 := by omega
  have ho : isOpen p = false := by simp [isOpen]; omega
  have hh : ¬ (2000 < szSum ps + p.size) := by omega
  unfold St.step
  rw [if_neg (by simp [szSt])]
  simp only [szSt, h7, if_false, ho, Bool.false_eq_true, bump]
  unfold St.hold
  simp only [hh, if_false]
  simp [szSum_snoc]

theorem szSt_end (ps : List Ev) : (szSt ps).step evEnd = ((evArr (-1)).counted ps.length :: ps ++ [evEnd], 0, St.new 2000) := by
  simp [St.step, szSt, St.close, heldSet, St.new, evEnd]

theorem new_pass {p : Ev} {x : Int} (hk : p.kind < 5) : (St.new x).step p = ([p], 0, St.new x) := by
  have hl : p.loose = false := by unfold Ev.loose; simp; omega
  simp [St.step, St.new, hl]

theorem tidy_low {e : Ev} (h0 : 0 ≤ e.kind) (h5 : e.kind < 5) : ∃ p, tidy e = some p := by
  unfold tidy
  by_cases h : e.kind = 0
  · exact ⟨_, by rw [if_pos h]⟩
  rw [if_neg h]
  by_cases h1 : e.kind = 1
  · exact ⟨_, by rw [if_pos h1]⟩
  rw [if_neg h1]
  by_cases h2 : e.kind = 2
  · exact ⟨_, by rw [if_pos h2]⟩
  rw [if_neg h2]
  by_cases h3 : e.kind = 3
  · exact ⟨_, by rw [if_pos h3]⟩
  rw [if_neg h3]
  by_cases h4 : e.kind = 4
  · exact ⟨_, by rw [if_pos h4]⟩
  omega
end Go.Tru
namespace Go.Proofs.Ytefdemebmibonaa
open Go.RowKit Go.Tru

def AheadRel (n B : Nat) (w : World) (i : Value) (wr : World) : Prop :=
  ∃ (k : Nat) (hv ov : Value), k ≤ n ∧ i = .int .i64 k ∧ StIn wr B B hv ov (St.new 2000) ∧ Keeps [] w wr

def SizesRel (n B : Nat) (w : World) (v i : Value) (wr : World) : Prop :=
  ∃ (ps : List Ev) (hv ov : Value), ps.length ≤ n ∧ i = .int .i64 ps.length ∧ v = .int .i64 (szSum ps) ∧ (∀ p ∈ ps, Clear p ∧ p.text.size ≤ 25) ∧ StIn wr B B hv ov (szSt ps) ∧ Keeps [] w wr

set_option maxHeartbeats 3200000 in
set_option maxRecDepth 100000 in
theorem stageSizes_walk (o1 : Option Addr) (n1 c1 : Nat) (qs : List Ev) (o2 : Option Addr) (n2 c2 : Nat) (es : List Ev) (w : World) (h1 : EvsIn w o1 n1 c1 qs) (_f1 : ∀ e ∈ qs, e.Fit) (h2 : EvsIn w o2 n2 c2 es) (_f2 : ∀ e ∈ es, e.Fit) :
    Calls Try.prog 6 #[.slice o1 n1 c1, .slice o2 n2 c2] w fun r w' => r = .returned (.bool true) ∧ Below w.heap.size w w' := by
  refine Calls.mono (R := fun r w' => r = .returned (.bool true) ∧ Keeps [] w w') ?_ (fun r w' h => ⟨h.1, h.2.all⟩)
  have m1 : n1 ≤ 9223372036854775807 := by have := h1.room; have := h1.most; unfold maxLen at *; omega
  have m2 : n2 ≤ 9223372036854775807 := by have := h2.room; have := h2.most; unfold maxLen at *; omega
  have L1 := Lib.hid h1.len
  have L2 := Lib.hid h2.len
  have F1 := Lib.hid _f1
  have F2 := Lib.hid _f2
  have H1 := Lib.hid h1
  have H2 := Lib.hid h2
  clear h1 h2 _f1 _f2
  by_cases hlong : 20 < n1 ∨ ¬ 20 < n1 ∧ 60 < n2
  · rcases hlong with h | ⟨h, h'⟩
    all_goals
      go_enter Try.func6, Try.ntmps6
      go_wp2_with fail
      refine (alive_any w).mono ?_
      rintro e w1 ⟨rfl, k1⟩
      have K1 := Lib.hid k1
      clear k1
      go_wp2_with fail
      go_ret
      exact ⟨rfl, K1.out⟩
  have hn1 : n1 ≤ 20 := by omega
  have hn2 : n2 ≤ 60 := by omega
  clear hlong
  go_enter Try.func6, Try.ntmps6
  go_wp2_with fail
  refine (alive_any w).mono ?_
  rintro e w1 ⟨rfl, k1⟩
  have K1 := Lib.hid k1
  have z1 := k1.size
  clear k1
  go_wp2_with fail
  refine (new_any 2000 w1).mono ?_
  rintro e w2 ⟨rfl, hs2, k2⟩
  have HS2 := Lib.hid hs2
  have K2 := Lib.hid (K1.out.trans k2)
  have z2 := k2.size
  clear hs2 k2
  go_wp2_with fail
  go_loopw [39] (fun i wr => AheadRel n1 w1.heap.size w i wr) (fun i _ => n1 - (intOf i).toNat)
  case atStart => exact ⟨0, _, _, Nat.zero_le _, rfl, HS2.out, K2.out⟩
  case round =>
    obtain ⟨k, hv, ov, hk, rfl, hs, hK⟩ := hrel
    have hbl := hs.base_lt
    by_cases hlt : k < n1
    · have hx : k < qs.length := by rw [L1.out]; exact hlt
      obtain ⟨b1, f1, rfl, g0, g1, g2, g3, g4⟩ := (H1.out.keeps hK).get hlt hx
      have hki : (k : Int) < (n1 : Int) := by omega
      have htl := (F1.out _ (List.getElem_mem hx)).2.2.1
      unfold maxLen at htl
      have HS := Lib.hid hs
      have HK := Lib.hid hK
      clear hs hK
      generalize hae : qs[k] = a at g0 g1 g2 g3 g4 htl
      clear hae
      rcases (show 5 ≤ a.kind ∨ ¬ 5 ≤ a.kind ∧ a.kind < 0 ∨ ¬ 5 ≤ a.kind ∧ ¬ a.kind < 0 ∧ 60 < a.text.size ∨ ¬ 5 ≤ a.kind ∧ ¬ a.kind < 0 ∧ ¬ 60 < a.text.size by omega) with hq | ⟨hq, hq2⟩ | ⟨hq, hq2, hq3⟩ | ⟨hq, hq2, hq3⟩
      · go_wp2_with fail
        go_ret
        exact ⟨rfl, HK.out⟩
      · go_wp2_with fail
        go_ret
        exact ⟨rfl, HK.out⟩
      · go_wp2_with fail
        go_ret
        exact ⟨rfl, HK.out⟩
      · obtain ⟨p, hti⟩ := tidy_low (e := a) (by omega) (by omega)
        have hpk := tidy_kind hti
        have hpt := tidy_text hti
        have HT := Lib.hid hti
        have HSTEP := Lib.hid (new_pass (p := p) (x := 2000) (by omega))
        have hps : p.text.size ≤ 1000000 := by omega
        have HCP := Lib.hid (tidy_clear hti)
        clear hti hpk
        go_wp2_with fail
        refine (of_yes a p _ HT.out).mono ?_
        rintro e w3 ⟨rfl, k3⟩
        obtain ⟨pv, hpv⟩ : ∃ pv, p.part = pv := ⟨_, rfl⟩
        rw [hpv]
        have HPV := Lib.hid hpv
        have HS3 := Lib.hid (HS.out.keep0 k3)
        have K3 := Lib.hid (HK.out.trans k3)
        have z3 := k3.size
        clear hpv k3
        go_wp2_with fail
        have hst := stepped (St.new 2000) p HCP.out hps w w3 w1.heap.size w1.heap.size _ _ HS3.out (fit_new (by omega)) (by omega) (Nat.le_refl _) z1 K3.out
        rw [HPV.out, HSTEP.out] at hst
        refine hst.mono ?_
        clear hst
        rintro e w4 ⟨v4, hv4, ov4, rfl, hown4, h4, k4, b4, z4⟩
        obtain ⟨a4, c4, rfl⟩ := hown4.shape
        have HS4 := Lib.hid h4
        have K4 := Lib.hid k4
        clear hown4 h4 k4 b4
        simp only [List.length_nil, List.length_cons]
        go_wp2_with fail
        refine (held_any _ _ _ _ _ _ HS4.out).mono ?_
        rintro e w5 ⟨rfl, rfl⟩
        simp only [St.new]
        go_wp2_with fail
        go_roundw
        case rel => exact ⟨k + 1, _, _, by omega, by go_num, HS4.out, K4.out⟩
        case measure => simp [intOf]; omega
    · obtain rfl : k = n1 := by omega
      have HS := Lib.hid hs
      have HK := Lib.hid hK
      obtain ⟨wo, rfl⟩ : ∃ wo : World, wo = wr := ⟨_, rfl⟩
      clear hs hK
      go_wp2_with fail
      have hst := stepped (St.new 2000) (evArr (-1)) (Or.inr (Or.inr (Or.inr (Or.inr (Or.inr (Or.inl ⟨-1, by omega, rfl⟩)))))) (by decide) w wo w1.heap.size w1.heap.size _ _ HS.out (fit_new (by omega)) (by omega) (Nat.le_refl _) z1 HK.out
      rw [part_arr, show (St.new 2000).step (evArr (-1)) = ([], 0, szSt []) from rfl] at hst
      refine hst.mono ?_
      clear hst
      rintro e w4 ⟨v4, hv4, ov4, rfl, hown4, h4, k4, b4, z4⟩
      have HS4 := Lib.hid h4
      have K4 := Lib.hid k4
      clear hown4 h4 k4 b4
      go_wp2_with fail
      go_loopw [12, 95] (fun v i wr => SizesRel n2 w1.heap.size w v i wr) (fun _ i _ => n2 - (intOf i).toNat)
      case atStart => exact ⟨[], _, _, Nat.zero_le _, rfl, rfl, by simp, HS4.out, K4.out⟩
      case round =>
        obtain ⟨ps, hv, ov, hk, rfl, rfl, hcl, hs, hK⟩ := hrel
        have hbl5 := hs.base_lt
        have hsz := szSum_bound hcl
        have HCL := Lib.hid hcl
        clear hcl
        obtain ⟨sm, hsm⟩ : ∃ sm, sm = szSum ps := ⟨_, rfl⟩
        rw [← hsm] at hsz ⊢
        have HSM := Lib.hid hsm
        clear hsm
        obtain ⟨hsz1, hsz2⟩ := hsz
        by_cases hlt : ps.length < n2
        · have hx : ps.length < es.length := by rw [L2.out]; exact hlt
          obtain ⟨b1, f1, rfl, g0, g1, g2, g3, g4⟩ := (H2.out.keeps hK).get hlt hx
          have hki : (ps.length : Int) < (n2 : Int) := by omega
          have htl := (F2.out _ (List.getElem_mem hx)).2.2.1
          unfold maxLen at htl
          have HS := Lib.hid hs
          have HK := Lib.hid hK
          clear hs hK
          generalize hae : es[ps.length] = a at g0 g1 g2 g3 g4 htl
          clear hae
          rcases (show 5 ≤ a.kind ∨ ¬ 5 ≤ a.kind ∧ a.kind < 0 ∨ ¬ 5 ≤ a.kind ∧ ¬ a.kind < 0 ∧ 25 < a.text.size ∨ ¬ 5 ≤ a.kind ∧ ¬ a.kind < 0 ∧ ¬ 25 < a.text.size by omega) with hq | ⟨hq, hq2⟩ | ⟨hq, hq2, hq3⟩ | ⟨hq, hq2, hq3⟩
          · go_wp2_with fail
            go_ret
            exact ⟨rfl, HK.out⟩
          · go_wp2_with fail
            go_ret
            exact ⟨rfl, HK.out⟩
          · go_wp2_with fail
            go_ret
            exact ⟨rfl, HK.out⟩
          · obtain ⟨p, hti⟩ := tidy_low (e := a) (by omega) (by omega)
            have hpk := tidy_kind hti
            have hpt := tidy_text hti
            have HT := Lib.hid hti
            have HSTEP := Lib.hid (szSt_step HCL.out (by omega) (p := p) (by omega) (by omega))
            have hps : p.text.size ≤ 1000000 := by omega
            have HPT := Lib.hid (show p.text.size ≤ 25 by omega)
            have HCP := Lib.hid (tidy_clear hti)
            have hsp : p.size = 1 + (p.text.size : Int) := rfl
            have hsp1 : 1 ≤ p.size := by omega
            have hsp2 : p.size ≤ 26 := by omega
            have hsiz := fun W => size_any p HCP.out (by unfold maxLen; omega) W
            have hsum : szSum (ps ++ [p]) = sm + p.size := by rw [szSum_snoc, HSM.out]
            have HSUM := Lib.hid hsum
            clear hti hpk hsp hsum
            obtain ⟨pv, hpv⟩ : ∃ pv, p.part = pv := ⟨_, rfl⟩
            rw [hpv] at hsiz
            have HPV := Lib.hid hpv
            have HSIZ := Lib.hid hsiz
            clear hpv hsiz
            go_wp2_with fail
            refine (of_yes a p _ HT.out).mono ?_
            rintro e w5 ⟨rfl, k5⟩
            rw [HPV.out]
            have HS5 := Lib.hid (HS.out.keep0 k5)
            have K5 := Lib.hid (HK.out.trans k5)
            have z5 := k5.size
            clear k5
            go_wp2_with fail
            refine (HSIZ.out _).mono ?_
            rintro e w6 ⟨rfl, k6⟩
            have HS6 := Lib.hid (HS5.out.keep0 k6)
            have K6 := Lib.hid (K5.out.trans k6)
            have z6 := k6.size
            clear k6
            go_wp2_with fail
            have hst := stepped (szSt ps) p HCP.out hps w w6 w1.heap.size w1.heap.size _ _ HS6.out (szSt_fit HCL.out (by omega)) (by omega) (Nat.le_refl _) z1 K6.out
            rw [HPV.out, HSTEP.out] at hst
            refine hst.mono ?_
            clear hst
            rintro e w7 ⟨v7, hv7, ov7, rfl, hown7, h7, k7, b7, z7⟩
            obtain ⟨a7, c7, rfl⟩ := hown7.shape
            have HS7 := Lib.hid h7
            have K7 := Lib.hid k7
            clear hown7 h7 k7 b7
            simp only [List.length_nil]
            go_wp2_with fail
            refine (held_any _ _ _ _ _ _ HS7.out).mono ?_
            rintro e w8 ⟨rfl, rfl⟩
            rw [show (szSt (ps ++ [p])).size = sm + p.size from HSUM.out]
            have hnee : (sm + p.size != sm + p.size) = false := by simp
            go_wp2_with fail
            go_roundw
            case rel =>
              refine ⟨ps ++ [p], _, _, by simp; omega, by simp, by rw [HSUM.out], ?_, HS7.out, K7.out⟩
              intro q hq
              rcases List.mem_append.1 hq with hq | hq
              · exact HCL.out q hq
              · rw [List.mem_singleton] at hq
                subst hq
                exact ⟨HCP.out, HPT.out⟩
            case measure => simp [intOf]; omega
        · obtain rfl : ps.length = n2 := by omega
          have HS := Lib.hid hs
          have HK := Lib.hid hK
          clear hs hK
          go_wp2_with fail
          have hst := stepped (szSt ps) evEnd (Or.inr (Or.inr (Or.inr (Or.inr (Or.inr (Or.inr (Or.inr rfl))))))) (by decide) w wr w1.heap.size w1.heap.size _ _ HS.out (szSt_fit HCL.out (by omega)) (by omega) (Nat.le_refl _) z1 HK.out
          rw [part_end, szSt_end] at hst
          refine hst.mono ?_
          clear hst
          rintro e w5 ⟨v5, hv5, ov5, rfl, hown5, h5, k5, b5, z5⟩
          obtain ⟨a5, c5, rfl⟩ := hown5.shape
          have HS5 := Lib.hid h5
          have K5 := Lib.hid k5
          clear hown5 h5 k5 b5
          simp only [List.length_append, List.length_cons, List.length_nil]
          go_wp2_with fail
          refine (held_any _ _ _ _ _ _ HS5.out).mono ?_
          rintro e w6 ⟨rfl, rfl⟩
          simp only [St.new]
          go_wp2_with fail
          refine (empty_any _ _ _ _ _ _ HS5.out).mono ?_
          rintro e w6 ⟨rfl, rfl⟩
          simp only [St.new]
          go_wp2_with fail
          go_ret
          exact ⟨rfl, K5.out⟩
end Go.Proofs.Ytefdemebmibonaa
