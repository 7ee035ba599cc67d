/-
  EventWraps' walk.
-/
import Derived.Test.YtdjdbcppabiknaaEvAlive
import Derived.Test.YtdjdbcppabiknaaEvApp
namespace Go.Proofs.Ytdjdbcppabiknaa
open Go.RowKit Go.Tru

def WrapRel (es : List Ev) (w : World) (v5 v6 i : Value) (wr : World) : Prop :=
  ∃ (k : Nat) (D M : Int), k ≤ es.length ∧ v5 = .int .i64 D ∧ v6 = .int .i64 M ∧ i = .int .i64 k ∧ dmRun (es.take k) = (D, M) ∧ Keeps [] w wr

set_option maxRecDepth 100000 in
set_option maxHeartbeats 1600000 in
theorem eventWraps_walk (o : Option Addr) (n c : Nat) (es : List Ev) (count : Int) (w : World) (h : EvsIn w o n c es) (_hf : ∀ e ∈ es, e.Fit) (hk : -9223372036854775808 ≤ count ∧ count ≤ 9223372036854775807) :
    Calls Try.prog 4 #[.slice o n c, .int .i64 count] w fun e w' => e = .returned (.bool true) ∧ Below w.heap.size w w' := by
  refine Calls.mono (R := fun e w' => e = .returned (.bool true) ∧ Keeps [] w w') ?_ (fun e w' h => ⟨h.1, h.2.all⟩)
  have m1 : n ≤ 9223372036854775807 := by have := h.room; have := h.most; unfold maxLen at *; omega
  have hr := h.room
  have hcm := h.most
  unfold maxLen at hcm
  obtain ⟨hk1, hk2⟩ := hk
  have hl := h.len
  have H := Lib.hid h
  have L := Lib.hid hl
  clear h hl
  by_cases hn : 60 < n
  · go_enter Try.func4, Try.ntmps4
    go_wp2_with fail
    refine (alive_any w).mono ?_
    rintro e w1 ⟨rfl, k1⟩
    have K1 := Lib.hid k1
    clear k1
    go_wp2_with fail
    go_ret
    exact ⟨rfl, K1.out⟩
  · have hn2 : n ≤ 60 := by omega
    clear hn
    go_enter Try.func4, Try.ntmps4
    go_wp2_with fail
    refine (check_any o n c es w H.out (by omega)).mono ?_
    rintro e w1 ⟨rfl, k1⟩
    have K1 := Lib.hid k1
    clear k1
    by_cases hc : check es = 0
    · have hn1 : n ≠ 0 := by
        rintro rfl
        have := L.out
        rw [List.length_eq_zero_iff] at this
        rw [this] at hc
        simp [check, ckRun] at hc
      have HC := Lib.hid hc
      rw [hc]
      clear hc
      go_wp2_with fail
      refine (alive_any w1).mono ?_
      rintro e w2 ⟨rfl, k2⟩
      have K2 := Lib.hid (K1.out.trans k2)
      clear k2
      go_wp2_with fail
      go_loopw [5, 6, 26] (fun v5 v6 i wr => WrapRel es w v5 v6 i wr) (fun _ _ i _ => n - (intOf i).toNat)
      case atStart => exact ⟨0, 0, 0, Nat.zero_le _, rfl, rfl, rfl, rfl, K2.out⟩
      case round =>
        obtain ⟨k, D, M, hk, rfl, rfl, rfl, hdm, hK⟩ := hrel
        have hb := dmRun_bound (es.take k)
        rw [hdm, List.length_take, Nat.min_eq_left hk] at hb
        obtain ⟨b1, b2, b3, b4⟩ := hb
        have hken : k ≤ n := by rw [← L.out]; exact hk
        simp only at b1 b2 b3 b4
        have HD := Lib.hid hdm
        have HK := Lib.hid hK
        clear hdm hk
        by_cases hlt : k < n
        · have hx : k < es.length := by rw [L.out]; exact hlt
          obtain ⟨bb, ff, rfl, g0, g1, g2, g3, g4⟩ := (H.out.keeps hK).get hlt hx
          clear hK
          have hs := dmRun_snoc hx
          rw [HD.out] at hs
          by_cases h5 : es[k].kind = 5 ∨ es[k].kind = 6
          · have hd : dmRun (es.take (k + 1)) = (D + 1, max M (D + 1)) := by rw [hs]; unfold dm; rw [if_pos h5]
            have HS := Lib.hid hd
            clear hs hd
            by_cases h55 : es[k].kind = 5
            · clear h5
              go_wp2_with fail
              go_roundw
              case rel => exact ⟨k + 1, D + 1, max M (D + 1), hx, by go_num, by go_num, by go_num, HS.out, HK.out.alloc _⟩
              case measure => simp [intOf]; omega
            · have h66 : es[k].kind = 6 := h5.resolve_left h55
              clear h5 h55
              go_wp2_with fail
              go_roundw
              case rel => exact ⟨k + 1, D + 1, max M (D + 1), hx, by go_num, by go_num, by go_num, HS.out, HK.out.alloc _⟩
              case measure => simp [intOf]; omega
          · by_cases h7 : es[k].kind = 7
            · have hd : dmRun (es.take (k + 1)) = (D - 1, M) := by rw [hs]; unfold dm; rw [if_neg h5, if_pos h7]
              have HS := Lib.hid hd
              clear hs hd h5
              go_wp2_with fail
              go_roundw
              case rel => exact ⟨k + 1, D - 1, M, hx, by go_num, by go_num, by go_num, HS.out, HK.out.alloc _⟩
              case measure => simp [intOf]; omega
            · have hd : dmRun (es.take (k + 1)) = (D, M) := by rw [hs]; unfold dm; rw [if_neg h5, if_neg h7]
              have HS := Lib.hid hd
              have h55 : (es[k].kind == 5) = false := beq_eq_false_iff_ne.2 (fun e => h5 (Or.inl e))
              have h66 : (es[k].kind == 6) = false := beq_eq_false_iff_ne.2 (fun e => h5 (Or.inr e))
              have h77 : (es[k].kind == 7) = false := beq_eq_false_iff_ne.2 h7
              clear hs hd h5 h7
              go_wp2_with fail
              go_roundw
              case rel => exact ⟨k + 1, D, M, hx, by go_num, by go_num, by go_num, HS.out, HK.out.alloc _⟩
              case measure => simp [intOf]; omega
        · obtain rfl : k = n := by omega
          have hdd : (dmRun es).2 = M := by
            have := HD.out
            rw [← L.out, List.take_length] at this
            rw [this]
          have HD2 := Lib.hid hdd
          clear hdd hlt
          rcases H.out.at_ with h0 | ⟨b, off, rfl, hbl, _⟩
          · omega
          have hz := hK.size
          clear hK HD
          by_cases hlow : count < -1
          · have hck := check_wrap_low (l := es) hlow
            have HCK := Lib.hid hck
            clear hck
            have hc1 : (count != 1) = true := by rw [bne_iff_ne]; omega
            have hc2 : (count != -1) = true := by rw [bne_iff_ne]; omega
            by_cases h16 : 16 ≤ M
            all_goals
              go_wp2_with (at_builtin; go_must (refine app_evs rfl _ _ rfl w.heap.size _ [evArr count] rfl (lit_ev _ rfl hz) ⟨b, off, none⟩ k c es rfl L.out (((H.out.keeps HK.out).keeps ((Keeps.refl _ _).alloc _)).src hn1) (by simp; omega) (by simp only [World.size_alloc]; omega) ?_))
              intro v1 w3 hown3 hgrow3 _hnil3
              have hK3 : Keeps [] w w3 := (HK.out.alloc _).grown hgrow3 (fun j hj => Or.inr (by simp only [Value.ownBlock, Option.some.injEq] at hj; omega))
              have hz3 := hK3.size
              have HO3 := Lib.hid hown3
              have HK3 := Lib.hid hK3
              have hbl3 := hown3.lt
              clear hown3 hgrow3 _hnil3 hK3
              go_wp2_with (at_builtin; go_must (refine app_evs rfl _ _ rfl w.heap.size _ ([evArr count] ++ es) rfl (HO3.out.alloc _) ⟨_, 0, none⟩ 1 1 [evEnd] rfl rfl (new_ev evEnd rfl) (by have := L.out; simp; omega) (by simp only [World.size_alloc]; omega) ?_))
              intro v2 w4 hown4 hgrow4 _hnil4
              have hK4 : Keeps [] w w4 := (HK3.out.alloc _).grown hgrow4 (fun j hj => Or.inr (hbl3 j hj).1)
              have hz4 := hK4.size
              have HK4 := Lib.hid hK4
              obtain ⟨l5, hl5e⟩ : ∃ l5, l5 = evArr count :: (es ++ [evEnd]) := ⟨_, rfl⟩
              rw [← hl5e] at hown4
              obtain ⟨o5, c5, hv5, hin5⟩ := evsIn_of_owns hown4
              have HI5 := Lib.hid hin5
              have hl5 : l5.length ≤ 100 := by have := L.out; rw [hl5e]; simp; omega
              have HE5 := Lib.hid hl5e
              have HL5 := Lib.hid hl5
              clear hown4 hgrow4 _hnil4 hK4 hbl3 HO3 hin5 hl5 hl5e
              rw [hv5]
              clear hv5
              go_wp2_with fail
              refine (check_any o5 _ c5 l5 _ HI5.out (by have := HL5.out; omega)).mono ?_
              rintro e w5 ⟨rfl, k5⟩
              have K5 := Lib.hid (HK4.out.trans k5)
              have hck5 : check l5 = 2 := HE5.out ▸ HCK.out
              rw [hck5]
              clear hck5 k5 HI5
              go_wp2_with fail
              go_ret
              exact ⟨rfl, K5.out⟩
          · have hck := check_wrap HC.out (count := count) (by omega)
            rw [HD2.out] at hck
            have hcase : (16 ≤ M ∧ wrapWant M count = 4) ∨ (M < 16 ∧ (count != 1) = false ∧ wrapWant M count = 0) ∨ (M < 16 ∧ (count != 1) = true ∧ (count != -1) = false ∧ wrapWant M count = 0) ∨ (M < 16 ∧ (count != 1) = true ∧ (count != -1) = true ∧ wrapWant M count = 2) := by
              unfold wrapWant
              by_cases h16 : 16 ≤ M
              · exact Or.inl ⟨h16, if_pos h16⟩
              · rw [if_neg h16]
                by_cases h1 : count = 1
                · exact Or.inr (Or.inl ⟨by omega, by simpa using h1, if_pos (Or.inl h1)⟩)
                · by_cases h2 : count = -1
                  · exact Or.inr (Or.inr (Or.inl ⟨by omega, by simpa using h1, by simpa using h2, if_pos (Or.inr h2)⟩))
                  · exact Or.inr (Or.inr (Or.inr ⟨by omega, by simpa using h1, by simpa using h2, if_neg (by omega)⟩))
            have HCK := Lib.hid hck
            clear hck
            rcases hcase with ⟨h16, hw⟩ | ⟨h16, hc1, hw⟩ | ⟨h16, hc1, hc2, hw⟩ | ⟨h16, hc1, hc2, hw⟩
            all_goals
              have HW := Lib.hid hw
              clear hw
              go_wp2_with (at_builtin; go_must (refine app_evs rfl _ _ rfl w.heap.size _ [evArr count] rfl (lit_ev _ rfl hz) ⟨b, off, none⟩ k c es rfl L.out (((H.out.keeps HK.out).keeps ((Keeps.refl _ _).alloc _)).src hn1) (by simp; omega) (by simp only [World.size_alloc]; omega) ?_))
              intro v1 w3 hown3 hgrow3 _hnil3
              have hK3 : Keeps [] w w3 := (HK.out.alloc _).grown hgrow3 (fun j hj => Or.inr (by simp only [Value.ownBlock, Option.some.injEq] at hj; omega))
              have hz3 := hK3.size
              have HO3 := Lib.hid hown3
              have HK3 := Lib.hid hK3
              have hbl3 := hown3.lt
              clear hown3 hgrow3 _hnil3 hK3
              go_wp2_with (at_builtin; go_must (refine app_evs rfl _ _ rfl w.heap.size _ ([evArr count] ++ es) rfl (HO3.out.alloc _) ⟨_, 0, none⟩ 1 1 [evEnd] rfl rfl (new_ev evEnd rfl) (by have := L.out; simp; omega) (by simp only [World.size_alloc]; omega) ?_))
              intro v2 w4 hown4 hgrow4 _hnil4
              have hK4 : Keeps [] w w4 := (HK3.out.alloc _).grown hgrow4 (fun j hj => Or.inr (hbl3 j hj).1)
              have hz4 := hK4.size
              have HK4 := Lib.hid hK4
              obtain ⟨l5, hl5e⟩ : ∃ l5, l5 = evArr count :: (es ++ [evEnd]) := ⟨_, rfl⟩
              rw [← hl5e] at hown4
              obtain ⟨o5, c5, hv5, hin5⟩ := evsIn_of_owns hown4
              have HI5 := Lib.hid hin5
              have hl5 : l5.length ≤ 100 := by have := L.out; rw [hl5e]; simp; omega
              have HE5 := Lib.hid hl5e
              have HL5 := Lib.hid hl5
              clear hown4 hgrow4 _hnil4 hK4 hbl3 HO3 hin5 hl5 hl5e
              rw [hv5]
              clear hv5
              go_wp2_with fail
              refine (check_any o5 _ c5 l5 _ HI5.out (by have := HL5.out; omega)).mono ?_
              rintro e w5 ⟨rfl, k5⟩
              have K5 := Lib.hid (HK4.out.trans k5)
              have hck5 : check l5 = wrapWant M count := HE5.out ▸ HCK.out
              rw [hck5, HW.out]
              clear hck5 k5 HI5
              go_wp2_with (at_builtin; go_must (refine wpList_wanted rfl (app_evs rfl _ _ rfl w.heap.size (.slice none 0 0) [] rfl (OwnsEvs.nil _ _ _) ⟨b, off, none⟩ k c es rfl L.out ((H.out.keeps K5.out).src hn1) (by simp; omega) (by have := K5.out.size; omega) ?_)))
              intro v6 w6 hown6 hgrow6 _hnil6
              have hK6 : Keeps [] w w6 := K5.out.grown hgrow6 (fun j hj => by simp [Value.ownBlock] at hj)
              have hz6 := hK6.size
              have HO6 := Lib.hid hown6
              have HK6 := Lib.hid hK6
              have hbl6 := hown6.lt
              clear hown6 hgrow6 _hnil6 hK6
              go_wp2_with (at_builtin; go_must (refine wpList_wanted rfl (app_evs rfl _ _ rfl w.heap.size _ es rfl (HO6.out.alloc _) ⟨_, 0, none⟩ 1 1 [evNull] rfl rfl (new_ev evNull rfl) (by have := L.out; simp; omega) (by simp only [World.size_alloc]; omega) ?_)))
              intro v7 w7 hown7 hgrow7 _hnil7
              have hK7 : Keeps [] w w7 := (HK6.out.alloc _).grown hgrow7 (fun j hj => Or.inr (hbl6 j hj).1)
              have HK7 := Lib.hid hK7
              obtain ⟨l8, hl8e⟩ : ∃ l8, l8 = es ++ [evNull] := ⟨_, rfl⟩
              have hown8 : OwnsEvs w7 w.heap.size 32 v7 l8 := by rw [hl8e]; exact hown7
              obtain ⟨o8, c8, hv8, hin8⟩ := evsIn_of_owns hown8
              have HI8 := Lib.hid hin8
              have hl8 : l8.length ≤ 100 := by have := L.out; rw [hl8e]; simp; omega
              have HE8 := Lib.hid hl8e
              have HL8 := Lib.hid hl8
              clear hown7 hown8 hgrow7 _hnil7 hK7 hbl6 HO6 hin8 hl8 hl8e
              rw [hv8]
              clear hv8
              go_wp2_with fail
              refine (check_any o8 _ c8 l8 _ HI8.out (by have := HL8.out; omega)).mono ?_
              rintro e w9 ⟨rfl, k9⟩
              have K9 := Lib.hid (HK7.out.trans k9)
              have hck9 : check l8 = 2 := HE8.out ▸ check_more HC.out
              rw [hck9]
              clear hck9 k9 HI8
              go_wp2_with fail
              go_ret
              exact ⟨rfl, K9.out⟩
    · have hne : (check es != 0) = true := by simpa using hc
      go_wp2_with fail
      refine (alive_any w1).mono ?_
      rintro e w2 ⟨rfl, k2⟩
      have K2 := Lib.hid (K1.out.trans k2)
      clear k2
      go_wp2_with fail
      go_ret
      exact ⟨rfl, K2.out⟩
end Go.Proofs.Ytdjdbcppabiknaa
