/-
  truchmanref1.Inside: it ends, and tells no more text than there are bytes.
-/
import Derived.Test.YtmhkgfddlkdmgaaRefHex
import Derived.Test.YtmhkgfddlkdmgaaRefRune
import Derived.Deep.CutRange
namespace Go.Tru
theorem cut_size (s : ByteArray) (i j : Nat) : (s.extract i j).size = min j s.size - i := by
  rw [ByteArray.size_extract]
theorem byte_one (a : UInt8) : (⟨#[a]⟩ : ByteArray).size = 1 := rfl
theorem results_tmp4 {fn : Func} {t u v x : Tmp} (h : fn.results = #[.tmp t, .tmp u, .tmp v, .tmp x]) (tmps : Array Value) (P : Program) (w : World) :
    (results fn tmps).run P w = .ok (.tuple #[tmps.getD t undef, tmps.getD u undef, tmps.getD v undef, tmps.getD x undef]) w := by
  simp [results, h]
theorem rune_size (r : Int) : (⟨(putOf r).toArray⟩ : ByteArray).size ≤ 4 := by
  have := putOf_len r
  show (putOf r).toArray.size ≤ 4
  simpa using this
end Go.Tru
namespace Go.Proofs.Ytmhkgfddlkdmgaa
open Go.RowKit Go.Tru

/-- the inside of a string -/
def InsPost (s : ByteArray) (w : World) (e : Ending) (w' : World) : Prop :=
  ∃ (t : ByteArray) (n : Int) (all : Bool) (x : Int), e = .returned (.tuple #[.string t, .int .i64 n, .bool all, .int .i64 x]) ∧ (x = 0 → t.size ≤ n ∧ n ≤ s.size) ∧ t.size ≤ 2000 ∧ Keeps [] w w'

def InsRel (s : ByteArray) (w : World) (v k : Value) (wr : World) : Prop :=
  ∃ (T : ByteArray) (j : Nat), v = .string T ∧ k = .int .i64 j ∧ T.size ≤ j ∧ j ≤ s.size ∧ Keeps [] w wr

def InsRel2 (s : ByteArray) (j n : Nat) (w : World) (v k : Value) (wr : World) : Prop :=
  ∃ (T : ByteArray) (i : Nat), v = .string T ∧ k = .int .i64 i ∧ T.size ≤ j + i ∧ i ≤ n ∧ j + i ≤ s.size ∧ Keeps [] w wr

/-- what an escape adds, and where it ends -/
def EscRel (s T : ByteArray) (j : Nat) (w : World) (v k : Value) (wr : World) : Prop :=
  ∃ (i : Nat) (A : ByteArray), v = .int .i64 i ∧ k = .string A ∧ j ≤ i ∧ i + 2 ≤ s.size ∧ T.size + A.size ≤ i + 2 ∧ A.size ≤ 4 ∧ Keeps [] w wr

set_option maxHeartbeats 6400000 in
set_option maxRecDepth 100000 in
theorem inside_any (s : ByteArray) (hs : s.size ≤ 1000) (w : World) : Calls Try.prog 19 #[.string s, .bool true, .int .i64 200] w (InsPost s w) := by
  go_enter Try.func19, Try.ntmps19
  go_wp2_with fail
  go_loopw [10, 11] (fun v k wr => InsRel s w v k wr) (fun _ k _ => s.size - (intOf k).toNat)
  case atStart => exact ⟨⟨#[]⟩, 0, rfl, rfl, Nat.le_refl _, Nat.zero_le _, Keeps.refl _ _⟩
  case round =>
    obtain ⟨T, j, rfl, rfl, hT, hjs, hK⟩ := hrel
    have HK := Lib.hid hK
    clear hK
    by_cases hlt : j < s.size
    · have hi : (j : Int) < (s.size : Int) := by omega
      obtain ⟨b, hb⟩ : ∃ b : Int, (s[j].toNat : Int) = b := ⟨_, rfl⟩
      have hb0 : 0 ≤ b := by omega
      by_cases h34 : b = 34
      · subst h34
        go_wp2_with fail
        ((try simp only [Exit.inBlock, Exit.then]); refine bodyPost_ret (results_tmp4 rfl _ _ _) rfl ?_)
        exact ⟨_, _, _, _, rfl, fun _ => ⟨by omega, by omega⟩, by omega, HK.out⟩
      have e34 : (b == 34) = false := beq_eq_false_iff_ne.2 h34
      by_cases h32 : b < 32
      · clear h34
        go_wp2_with fail
        ((try simp only [Exit.inBlock, Exit.then]); refine bodyPost_ret (results_tmp4 rfl _ _ _) rfl ?_)
        exact ⟨_, _, _, _, rfl, fun h => by omega, by omega, HK.out⟩
      by_cases h92 : b = 92
      · subst h92
        clear h34
        by_cases h1 : j + 1 < s.size
        · have hi1 : ¬ (s.size : Int) ≤ (j : Int) + 1 := by omega
          have hi2 : (j : Int) + 1 < (s.size : Int) := by omega
          have hi3 : 0 ≤ (j : Int) + 1 := by omega
          obtain ⟨d, hd⟩ : ∃ d : Int, (s[j+1].toNat : Int) = d := ⟨_, rfl⟩
          go_upto_region 33 with fail
          iterate 12 (try ((fail_if_success (with_reducible apply wp_block)); (first | go_values | go_skip | go_guarded | go_step | go_upon | go_back)))
          go_cut [11, 14] from 160 to 264 (fun v k wx => EscRel s T j w v k wx)
          case first =>
            by_cases h117 : d = 117
            · as_aux_lemma =>
              subst h117
              have hi4 : 0 ≤ (j : Int) + 2 := by omega
              have hi5 : (j : Int) + 2 ≤ (s.size : Int) := by omega
              go_wp2_with fail
              refine (four_any _ (by rw [cut_size]; omega) _).mono ?_
              rintro e w1 ⟨v, n, x, rfl, hn0, hn4, hns, hx, hst⟩
              cases (show _ = _ from hst)
              rw [cut_size] at hns
              clear hst
              rcases hx with rfl | rfl
              · by_cases hn : n < 4
                · go_wp2_with fail
                  ((try simp only [Exit.inBlock, Exit.then]); refine bodyPost_ret (results_tmp4 rfl _ _ _) rfl ?_)
                  exact ⟨_, _, _, _, rfl, fun _ => ⟨by omega, by omega⟩, by omega, HK.out⟩
                · obtain rfl : n = 4 := by omega
                  have his : j + 6 ≤ s.size := by omega
                  clear hns hn hn0 hn4
                  by_cases v1 : 55296 ≤ v
                  · by_cases v2 : 56320 ≤ v
                    · by_cases v3 : v ≤ 57343
                      · go_wp2_with fail
                        ((try simp only [Exit.inBlock, Exit.then]); refine bodyPost_ret (results_tmp4 rfl _ _ _) rfl ?_)
                        exact ⟨_, _, _, _, rfl, fun h => by omega, by omega, HK.out⟩
                      · have v4 : ¬ v ≤ 56319 := by omega
                        go_wp2_with fail
                        refine (refRune v _).mono ?_
                        rintro e w2 ⟨rfl, k2⟩
                        have HK2 := Lib.hid (HK.out.trans k2)
                        clear k2
                        go_wp2_with fail
                        go_meet
                        case rel =>
                          have := rune_size v
                          exact ⟨j + 4, _, by go_num, rfl, by omega, by omega, by omega, this, HK2.out⟩
                    · have v4 : v ≤ 56319 := by omega
                      have hi6 : 0 ≤ (j : Int) + 6 := by omega
                      have hi7 : (j : Int) + 6 ≤ (s.size : Int) := by omega
                      go_wp2_with fail
                      refine (low_any _ (by rw [cut_size]; omega) _).mono ?_
                      rintro e w1 ⟨k, ok, rfl, hk0, hk6, hks, hst⟩
                      cases (show _ = _ from hst)
                      rw [cut_size] at hks
                      clear hst
                      cases ok with
                      | false =>
                        go_wp2_with fail
                        ((try simp only [Exit.inBlock, Exit.then]); refine bodyPost_ret (results_tmp4 rfl _ _ _) rfl ?_)
                        exact ⟨_, _, _, _, rfl, fun h => by omega, by omega, HK.out⟩
                      | true =>
                        by_cases hk : k < 6
                        · go_wp2_with fail
                          ((try simp only [Exit.inBlock, Exit.then]); refine bodyPost_ret (results_tmp4 rfl _ _ _) rfl ?_)
                          exact ⟨_, _, _, _, rfl, fun _ => ⟨by omega, by omega⟩, by omega, HK.out⟩
                        · have hi8 : 0 ≤ (j : Int) + 8 := by omega
                          have hi9 : (j : Int) + 8 ≤ (s.size : Int) := by omega
                          have his2 : j + 12 ≤ s.size := by omega
                          go_wp2_with fail
                          refine (four_any _ (by rw [cut_size]; omega) _).mono ?_
                          rintro e w1 ⟨v', n', x', rfl, _, _, _, _, hst⟩
                          cases (show _ = _ from hst)
                          clear hst
                          go_wp2_with fail
                          refine (refRune _ _).mono ?_
                          rintro e w2 ⟨rfl, k2⟩
                          have HK2 := Lib.hid (HK.out.trans k2)
                          clear k2
                          go_wp2_with fail
                          go_meet
                          case rel =>
                            exact ⟨j + 10, _, by go_num, rfl, by omega, by omega, by refine Nat.le_trans (Nat.add_le_add_left (rune_size _) _) ?_; omega, rune_size _, HK2.out⟩
                  · have v2 : ¬ 56320 ≤ v := by omega
                    go_wp2_with fail
                    refine (refRune v _).mono ?_
                    rintro e w2 ⟨rfl, k2⟩
                    have HK2 := Lib.hid (HK.out.trans k2)
                    clear k2
                    go_wp2_with fail
                    go_meet
                    case rel =>
                      have := rune_size v
                      exact ⟨j + 4, _, by go_num, rfl, by omega, by omega, by omega, this, HK2.out⟩
              · go_wp2_with fail
                ((try simp only [Exit.inBlock, Exit.then]); refine bodyPost_ret (results_tmp4 rfl _ _ _) rfl ?_)
                exact ⟨_, _, _, _, rfl, fun h => by omega, by omega, HK.out⟩
            · as_aux_lemma =>
              have e117 : (d == 117) = false := beq_eq_false_iff_ne.2 h117
              clear h117
              go_wp2_with fail
              all_goals first
                | (((try simp only [Exit.inBlock, Exit.then]); refine bodyPost_ret (results_tmp4 rfl _ _ _) rfl ?_)
                   exact ⟨_, _, _, _, rfl, fun h => by omega, by omega, HK.out⟩)
                | (go_meet
                   case rel => exact ⟨j, _, rfl, rfl, by omega, by omega, by first | (rw [cut_size]; omega) | (rw [byte_one]; omega), by first | (rw [cut_size]; omega) | (rw [byte_one]; omega), HK.out⟩)
          case rest =>
            as_aux_lemma =>
            obtain ⟨i, A, rfl, rfl, hji, his, hA, hA4, hK2⟩ := hcut
            have HK2 := Lib.hid hK2
            clear hK2
            have hz : ¬ 281474976710656 < T.size + A.size := by omega
            have hTA : (T ++ A).size ≤ i + 2 := by simp [ByteArray.size_append]; omega
            obtain ⟨TA, hTA2⟩ : ∃ TA, T ++ A = TA := ⟨_, rfl⟩
            rw [hTA2] at hTA
            go_wp2_with fail
            · ((try simp only [Exit.inBlock, Exit.then]); refine bodyPost_ret (results_tmp4 rfl _ _ _) rfl ?_)
              exact ⟨_, _, _, _, rfl, fun h => by omega, by omega, HK2.out⟩
            · exact ⟨⟨TA, i + 2, rfl, by go_num, hTA, by omega, HK2.out⟩, by simp [intOf]; omega⟩
        · have hi1 : (s.size : Int) ≤ (j : Int) + 1 := by omega
          go_wp2_with fail
          ((try simp only [Exit.inBlock, Exit.then]); refine bodyPost_ret (results_tmp4 rfl _ _ _) rfl ?_)
          exact ⟨_, _, _, _, rfl, fun _ => ⟨by omega, by omega⟩, by omega, HK.out⟩
      have e92 : (b == 92) = false := beq_eq_false_iff_ne.2 h92
      clear h34 h92
      as_aux_lemma =>
      go_wp2_with fail
      refine (lead_four b hb0 _).mono ?_
      rintro e w1 ⟨n, l, h, rfl, hn4, hst⟩
      cases (show _ = _ from hst)
      clear hst
      by_cases hn : n = 0
      · subst hn
        go_wp2_with fail
        ((try simp only [Exit.inBlock, Exit.then]); refine bodyPost_ret (results_tmp4 rfl _ _ _) rfl ?_)
        exact ⟨_, _, _, _, rfl, fun h => by omega, by omega, HK.out⟩
      have en : ((n : Int) == 0) = false := by simp; omega
      go_wp2_with fail
      go_loopw [10, 26] (fun v k wr => InsRel2 s j n w v k wr) (fun _ k _ => n - (intOf k).toNat)
      case atStart => exact ⟨T, 0, rfl, rfl, by omega, by omega, by omega, HK.out⟩
      case round =>
        obtain ⟨T2, k, rfl, rfl, hT2, hkn, hks, hK2⟩ := hrel
        have HK2 := Lib.hid hK2
        clear hK2
        by_cases hk : k < n
        · have hki : (k : Int) < (n : Int) := by omega
          by_cases hl2 : j + k < s.size
          · have hi2 : ¬ (s.size : Int) ≤ (j : Int) + (k : Int) := by omega
            have hi3 : (j : Int) + (k : Int) < (s.size : Int) := by omega
            have hi4 : 0 ≤ (j : Int) + (k : Int) := by omega
            obtain ⟨d, hd⟩ : ∃ d : Int, (s[j+k].toNat : Int) = d := ⟨_, rfl⟩
            rcases (show k = 0 ∨ k = 1 ∨ 1 < k by omega) with rfl | rfl | hk1
            · have hz : ¬ 281474976710656 < T2.size + (s.extract j (j + 1)).size := by rw [cut_size]; omega
              go_wp2_with fail
              all_goals first
                | (((try simp only [Exit.inBlock, Exit.then]); refine bodyPost_ret (results_tmp4 rfl _ _ _) rfl ?_)
                   exact ⟨_, _, _, _, rfl, fun h => by omega, by first | omega | (rw [ByteArray.size_append, cut_size]; omega), HK2.out⟩)
                | exact ⟨⟨_, 0 + 1, rfl, rfl, by rw [ByteArray.size_append, cut_size]; omega, by omega, by omega, HK2.out⟩, by simp [intOf]; try omega⟩
            · have hz : ¬ 281474976710656 < T2.size + (s.extract (j + 1) (j + 1 + 1)).size := by rw [cut_size]; omega
              have hz2 : ¬ 281474976710656 < T2.size + (s.extract (j + 1) (j + 2)).size := by rw [cut_size]; omega
              go_wp2_with fail
              all_goals first
                | (((try simp only [Exit.inBlock, Exit.then]); refine bodyPost_ret (results_tmp4 rfl _ _ _) rfl ?_)
                   exact ⟨_, _, _, _, rfl, fun h => by omega, by first | omega | (rw [ByteArray.size_append, cut_size]; omega), HK2.out⟩)
                | exact ⟨⟨_, 1 + 1, rfl, rfl, by rw [ByteArray.size_append, cut_size]; omega, by omega, by omega, HK2.out⟩, by simp [intOf]; try omega⟩
            · have hz : ¬ 281474976710656 < T2.size + (s.extract (j + k) (j + k + 1)).size := by rw [cut_size]; omega
              have hk0 : 0 < (k : Int) := by omega
              have hk2 : 1 < (k : Int) := by omega
              have hk3 : ((k : Int) == 1) = false := by simp; omega
              go_wp2_with fail
              all_goals first
                | (((try simp only [Exit.inBlock, Exit.then]); refine bodyPost_ret (results_tmp4 rfl _ _ _) rfl ?_)
                   exact ⟨_, _, _, _, rfl, fun h => by omega, by first | omega | (rw [ByteArray.size_append, cut_size]; omega), HK2.out⟩)
                | exact ⟨⟨_, k + 1, rfl, by go_num, by rw [ByteArray.size_append, cut_size]; omega, by omega, by omega, HK2.out⟩, by simp [intOf]; try omega⟩
          · have hi2 : (s.size : Int) ≤ (j : Int) + (k : Int) := by omega
            go_wp2_with fail
            ((try simp only [Exit.inBlock, Exit.then]); refine bodyPost_ret (results_tmp4 rfl _ _ _) rfl ?_)
            exact ⟨_, _, _, _, rfl, fun _ => ⟨by omega, by omega⟩, by omega, HK2.out⟩
        · obtain rfl : k = n := by omega
          have hki : ¬ (k : Int) < (k : Int) := by omega
          go_wp2_with fail
          go_roundw
          case rel => exact ⟨T2, j + k, rfl, by go_num, hT2, hks, HK2.out⟩
          case measure => simp [intOf]; omega
    · have hi : ¬ (j : Int) < (s.size : Int) := by omega
      go_wp2_with fail
      ((try simp only [Exit.inBlock, Exit.then]); refine bodyPost_ret (results_tmp4 rfl _ _ _) rfl ?_)
      exact ⟨_, _, _, _, rfl, fun _ => ⟨by omega, by omega⟩, by omega, HK.out⟩
end Go.Proofs.Ytmhkgfddlkdmgaa
