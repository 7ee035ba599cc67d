/-
  truchmanbook.Book.putInts: its contract.
-/
import Derived.Test.YtigajmfadfinpaaBookStill
namespace Go.Tru

theorem set_mid {α : Type} (a b : List α) (j : Nat) (x : α) (hl : a.length = b.length) (hx : a[j]? = some x) : (a.take j ++ b.drop j).set j x = a.take (j + 1) ++ b.drop (j + 1) := by
  have hj : j < a.length := (List.getElem?_eq_some_iff.1 hx).1
  have h1 : (a.take j).length = j := by rw [List.length_take]; omega
  rw [List.set_append_right _ _ (by omega), h1, Nat.sub_self]
  have h2 : b.drop j = b[j]'(by omega) :: b.drop (j + 1) := List.drop_eq_getElem_cons (by omega)
  rw [h2, List.set_cons_zero, List.take_succ_eq_append_getElem hj, List.append_assoc]
  have h3 : a[j] = x := by
    rw [List.getElem?_eq_getElem hj] at hx
    injection hx
  rw [h3]
  rfl
end Go.Tru
namespace Go.Proofs.Ytigajmfadfinpaa
open Go.RowKit Go.Tru

set_option maxHeartbeats 3200000 in
set_option maxRecDepth 100000 in
theorem putInts_any {w : World} {base b : Nat} {iv wv : Value} {vs us : List Value} (xss : Nat → List Int) (h : BookIn w base b iv wv vs us) (hn : vs.length ≤ 2) (hx : ∀ i, (xss i).length ≤ 10000)
    (hrow : ∀ (i : Nat) (v : Value), vs[i]? = some v → OwnsInts w base v (xss i))
    (hd : ∀ (i j : Nat) (v u : Value), vs[i]? = some v → vs[j]? = some u → i ≠ j → ∀ x ∈ blks v, x ∉ blks u)
    (hsep : ∀ (i : Nat) (v : Value), vs[i]? = some v → ∀ x ∈ blks v, x ≠ b ∧ x ∉ blks iv ∧ x ∉ blks wv) :
    Calls Try.prog 24 #[.pointer (some ⟨b, 0, none⟩)] w fun e w' => e = .returned (.tuple #[]) ∧ (∀ (i : Nat) (v : Value), vs[i]? = some v → OwnsInts w' base v (marksI i 0 (xss i).length)) ∧ Keeps (vs.flatMap blks) w w' := by
  obtain ⟨-, -, q2, -, -, -⟩ := h.cells
  have hil := World.ownsRow.lt h.ints
  obtain ⟨oi, ci, rfl, hi⟩ := slcsIn_of_owns h.ints
  have m1 := hi.most
  have m2 := hi.room
  unfold maxLen at m1
  have hbl := h.blk.lt
  have HI := Lib.hid hi
  have HX := Lib.hid hx
  have HR := Lib.hid hrow
  have HD := Lib.hid hd
  have HS := Lib.hid hsep
  have HIL := Lib.hid hil
  clear h hi hx hrow hd hsep hil
  have hbf : b ∉ vs.flatMap blks := fun hm => by
    obtain ⟨v, hv, hb⟩ := List.mem_flatMap.1 hm
    obtain ⟨i, hi, rfl⟩ := List.getElem_of_mem hv
    exact (HS.out i _ (List.getElem?_eq_getElem hi) b hb).1 rfl
  have hgf : ∀ g ∈ blks (.slice oi vs.length ci), g ∉ vs.flatMap blks := fun g hg hm => by
    obtain ⟨v, hv, hb⟩ := List.mem_flatMap.1 hm
    obtain ⟨i, hi, rfl⟩ := List.getElem_of_mem hv
    exact (HS.out i _ (List.getElem?_eq_getElem hi) g hb).2.1 hg
  have HBF := Lib.hid hbf
  have HGF := Lib.hid hgf
  clear hbf hgf
  go_enter Try.func24, Try.ntmps24
  go_wp2_with fail
  go_loopw [2] (fun i wr => ∃ k : Nat, k ≤ vs.length ∧ i = .int .i64 k ∧ (∀ (i : Nat) (v : Value), vs[i]? = some v → OwnsInts wr base v (if i < k then marksI i 0 (xss i).length else xss i)) ∧ Keeps (vs.flatMap blks) w wr) (fun i _ => vs.length - (intOf i).toNat)
  case atStart => exact ⟨0, Nat.zero_le _, rfl, fun i v hv => by rw [if_neg (by omega)]; exact HR.out i v hv, Keeps.refl _ _⟩
  case round =>
    obtain ⟨k, hk, rfl, hrows, hK⟩ := hrel
    have e2 := hK.cell q2 HBF.out
    have HK := Lib.hid hK
    have HRW := Lib.hid hrows
    clear hK hrows
    by_cases hlt : k < vs.length
    · have hi : (k : Int) < (vs.length : Int) := by omega
      obtain ⟨gi, rfl, v, hv, cv0⟩ := HI.out.get hlt
      have hgi : gi ∈ blks (.slice (some ⟨gi, 0, none⟩) vs.length ci) := mem_blks.2 rfl
      have cv := HK.out.cell cv0 (HGF.out gi hgi)
      have hown := HRW.out k v hv
      rw [if_neg (by omega)] at hown
      obtain ⟨N, hN⟩ : ∃ N, (xss k).length = N := ⟨_, rfl⟩
      obtain ⟨ov, c1, hvs⟩ := hown.shape
      rw [hN] at hvs
      subst hvs
      have hN1 : N ≤ 10000 := hN ▸ HX.out k
      have hmk : ∀ W, Calls Try.prog 35 #[.int .i64 k, .int .i64 0, .int .i64 N] W fun e w' => ∃ v, e = .returned v ∧ OwnsInts w' W.heap.size v (marksI k 0 N) ∧ Keeps [] W w' := fun W => markInts_any k 0 N (by omega) (by omega) (by omega) W
      have HMK := Lib.hid hmk
      have HO := Lib.hid hown
      have HV := Lib.hid hv
      have HN := Lib.hid hN
      obtain ⟨wo, rfl⟩ : ∃ wo : World, wo = wr := ⟨_, rfl⟩
      clear hmk hown hv hN cv0
      go_wp2_with fail
      refine (HMK.out _).mono ?_
      rintro e w5 ⟨v5, rfl, hown5, k5⟩
      obtain ⟨o5, c5, hv5⟩ := hown5.shape
      rw [marksI_len] at hv5
      subst hv5
      have H5 := Lib.hid hown5
      have K5 := Lib.hid k5
      have e25 := k5.cell e2 (by simp)
      have cv5 := k5.cell cv (by simp)
      have m5 : N ≤ c5 ∧ c5 ≤ 9223372036854775807 := by
        rcases hown5.2 with ⟨h1, h2⟩ | ⟨g, cap, cur, h1, _, _, h4, h5, _⟩
        · rw [marksI_len] at h2
          simp only [Value.slice.injEq] at h1
          omega
        · simp only [Value.slice.injEq] at h1
          rw [marksI_len] at h4
          unfold maxLen at h5
          omega
      have m6 : N ≤ c1 ∧ c1 ≤ 9223372036854775807 := by
        rcases HO.out.2 with ⟨h1, h2⟩ | ⟨g, cap, cur, h1, _, _, h4, h5, _⟩
        · simp only [Value.slice.injEq] at h1
          rw [HN.out] at h2
          omega
        · simp only [Value.slice.injEq] at h1
          rw [HN.out] at h4
          unfold maxLen at h5
          omega
      obtain ⟨m51, m52⟩ := m5
      obtain ⟨m61, m62⟩ := m6
      have hvl := World.ownsRow.lt HO.out
      have hzo : wo.heap.size ≤ w5.heap.size := k5.size
      clear hown5 k5 e2 cv
      go_wp2_with fail
      go_loopw [4] (fun j wr => ∃ jn : Nat, jn ≤ N ∧ j = .int .i64 jn ∧ OwnsInts wr base (.slice ov N c1) ((marksI k 0 N).take jn ++ (xss k).drop jn) ∧ Keeps (blks (.slice ov N c1)) w5 wr) (fun j _ => N - (intOf j).toNat)
      case atStart => exact ⟨0, Nat.zero_le _, rfl, by rw [List.take_zero, List.nil_append, List.drop_zero]; exact ownsRow_keeps HO.out K5.out (by simp), Keeps.refl _ _⟩
      case round =>
        obtain ⟨j, hj, rfl, hown, hK2⟩ := hrel
        have hbv : b ∉ blks (.slice ov N c1) := fun hm => (HS.out k _ HV.out b hm).1 rfl
        have hgv : gi ∉ blks (.slice ov N c1) := fun hm => (HS.out k _ HV.out gi hm).2.1 hgi
        have e2 := hK2.cell e25 hbv
        have cv := hK2.cell cv5 hgv
        have hlen : ((marksI k 0 N).take j ++ (xss k).drop j).length = N := by
          rw [List.length_append, List.length_take, List.length_drop, marksI_len, HN.out]; omega
        have HO2 := Lib.hid hown
        have HK2 := Lib.hid hK2
        have HL := Lib.hid hlen
        clear hown hK2 hbv hgv hlen
        by_cases hjl : j < N
        · have hji : (j : Int) < (N : Int) := by omega
          obtain ⟨gv, capv, hsv⟩ := own_block_slice HO2.out (by rw [HL.out]; omega)
          rw [HL.out] at hsv
          simp only [Value.slice.injEq] at hsv
          obtain ⟨rfl, -, rfl⟩ := hsv
          obtain ⟨g5, cap5, hs5⟩ := own_block_slice H5.out (by rw [marksI_len]; omega)
          rw [marksI_len] at hs5
          simp only [Value.slice.injEq] at hs5
          obtain ⟨rfl, -, rfl⟩ := hs5
          have h5r := ownsRow_keeps H5.out HK2.out (fun i hi hm => by
            have e1 := (World.ownsRow.lt H5.out i hi).1
            have e2 := (hvl i (mem_blks.1 hm)).2
            omega)
          obtain ⟨x, hxm⟩ : ∃ x, (marksI k 0 N)[j]? = some x := ⟨_, List.getElem?_eq_getElem (by rw [marksI_len]; omega)⟩
          have cm := World.ownsRow.cellAt (g := g5) (cap := c5) (n := N) (xs := (marksI k 0 N).map (Value.int .i64)) (by rw [marksI_len] at h5r; exact h5r) j (by omega)
          rw [List.getElem?_map, hxm] at cm
          simp only [Option.map_some] at cm
          have hown' : wr.ownsRow base 3 1 (.slice (some ⟨gv, 0, none⟩) N c1) N (((marksI k 0 N).take j ++ (xss k).drop j).map (Value.int .i64)) := by
            have := HO2.out
            unfold OwnsInts at this
            rw [HL.out] at this
            exact this
          have ct := World.ownsRow.cellAt hown' j (by omega)
          obtain ⟨old, hold⟩ : ∃ old, ((marksI k 0 N).take j ++ (xss k).drop j)[j]? = some old := ⟨_, List.getElem?_eq_getElem (by rw [HL.out]; exact hjl)⟩
          rw [List.getElem?_map, hold] at ct
          simp only [Option.map_some] at ct
          have fz := World.ownsRow.frozenAt hown' j
          have hst := (World.ownsRow.stored hown' j (.int .i64 x)).1
          rw [← List.map_set, set_mid _ _ j x (by rw [marksI_len, HN.out]) hxm] at hst
          have gvl : gv < wr.heap.size := (World.ownsRow.lt hown' gv rfl).2
          have hst2 : OwnsInts (wr.setCell ⟨gv, j, none⟩ (.int .i64 x)) base (.slice (some ⟨gv, 0, none⟩) N c1) ((marksI k 0 N).take (j + 1) ++ (xss k).drop (j + 1)) := by
            unfold OwnsInts
            rw [show ((marksI k 0 N).take (j + 1) ++ (xss k).drop (j + 1)).length = N by rw [List.length_append, List.length_take, List.length_drop, marksI_len, HN.out]; omega]
            exact hst
          have HST := Lib.hid hst2
          have HKS := Lib.hid (HK2.out.setCell (p := ⟨gv, j, none⟩) (Or.inl (mem_blks.2 rfl)) (.int .i64 x))
          clear h5r hxm hown' hst hst2 hold
          go_wp2_with fail
          go_region_law (fail)
          all_goals
            go_wp2_with fail
            go_roundw
            case rel => exact ⟨j + 1, by omega, by go_num, by first | exact HST.out | exact World.ownsRow.drew HST.out, by first | exact HKS.out | exact HKS.out.drew⟩
            case measure => simp [intOf]; omega
        · have hge : ¬ (j : Int) < (N : Int) := by omega
          obtain rfl : j = N := by omega
          go_wp2_with fail
          go_roundw
          case rel =>
            refine ⟨k + 1, by omega, by go_num, fun i u hu => ?_, ?_⟩
            · have hw : List.take j (marksI k 0 j) ++ List.drop j (xss k) = marksI k 0 j := by
                rw [List.take_of_length_le (by rw [marksI_len]; exact Nat.le_refl _), List.drop_of_length_le (by rw [HN.out]; exact Nat.le_refl _), List.append_nil]
              by_cases hik : i = k
              · subst hik
                rw [HV.out] at hu
                injection hu with hu
                subst hu
                rw [if_pos (by omega), HN.out]
                have := HO2.out
                rw [hw] at this
                exact this
              · have h1 := ownsRow_keeps (ownsRow_keeps (HRW.out i u hu) K5.out (by simp)) HK2.out (fun x hx => HD.out i k u _ hu HV.out hik x (mem_blks.2 hx))
                have e1 : (if i < k + 1 then marksI i 0 (xss i).length else xss i) = if i < k then marksI i 0 (xss i).length else xss i := by
                  by_cases h2 : i < k
                  · rw [if_pos (by omega), if_pos h2]
                  · rw [if_neg (by omega), if_neg h2]
                rw [e1]
                exact h1
            · refine (HK.out.trans (K5.out.mono (by simp))).trans (HK2.out.mono (fun x hx => ?_))
              exact List.mem_flatMap.2 ⟨_, List.mem_of_getElem? HV.out, hx⟩
          case measure => simp [intOf]; omega
    · have hge : ¬ (k : Int) < (vs.length : Int) := by omega
      obtain rfl : k = vs.length := by omega
      go_wp2_with fail
      go_end0
      refine ⟨rfl, fun i v hv => ?_, HK.out⟩
      have := HRW.out i v hv
      rw [if_pos (List.getElem?_eq_some_iff.1 hv).1] at this
      exact this
end Go.Proofs.Ytigajmfadfinpaa
