/-
  JsoninDeep's walk.
-/
import Derived.Test.YtbeocehadnhmnaaJsAlive
import Derived.Test.YtbeocehadnhmnaaJsDeepPlain
import Derived.Test.YtbeocehadnhmnaaJsCkPlain
namespace Go.Tru
theorem js_cat (s t : ByteArray) : (s ++ t).data.toList = s.data.toList ++ t.data.toList := by
  rw [ByteArray.data_append, Array.toList_append]
theorem deepL_succ (k : Nat) (m : Bool) : deepL (k + 1) m = deepL k m ++ (if m then [123, 34, 97, 34, 58] else [91]) := by
  unfold deepL; rw [List.replicate_succ', List.flatten_append]; simp
theorem deepR_succ (k : Nat) (m : Bool) : deepR (k + 1) m = deepR k m ++ [if m then 125 else 93] := by
  unfold deepR; rw [List.replicate_succ']
end Go.Tru
namespace Go.Proofs.Ytbeocehadnhmnaa
open Go.RowKit Go.Tru

def DeepLRel (n : Nat) (m : Bool) (w : World) (v i : Value) (wr : World) : Prop :=
  ∃ (k : Nat) (s : ByteArray), k ≤ n ∧ i = .int .i64 k ∧ v = .string s ∧ s.data.toList = deepL k m ∧ s.size ≤ 5 * k ∧ Keeps [] w wr
def DeepRRel (n : Nat) (m : Bool) (w : World) (v i : Value) (wr : World) : Prop :=
  ∃ (k : Nat) (s : ByteArray), k ≤ n ∧ i = .int .i64 k ∧ v = .string s ∧ s.data.toList = deepL n m ++ [49] ++ deepR k m ∧ s.size ≤ 5 * n + 1 + k ∧ Keeps [] w wr

set_option maxHeartbeats 3200000 in
set_option maxRecDepth 100000 in
theorem jsoninDeep_walk (a d : Int) (m : Bool) (w : World) (ha : -9223372036854775808 ≤ a ∧ a ≤ 9223372036854775807) (hdd : -9223372036854775808 ≤ d ∧ d ≤ 9223372036854775807) :
    Calls Try.prog 4 #[.int .i64 a, .int .i64 d, .bool m] w fun r w' => r = .returned (.bool true) ∧ Below w.heap.size w w' := by
  refine Calls.mono (R := fun r w' => r = .returned (.bool true) ∧ Keeps [] w w') ?_ (fun r w' h => ⟨h.1, h.2.all⟩)
  by_cases hlong : a < 1 ∨ ¬ a < 1 ∧ 20 < a ∨ ¬ a < 1 ∧ ¬ 20 < a ∧ d < 1 ∨ ¬ a < 1 ∧ ¬ 20 < a ∧ ¬ d < 1 ∧ 16 < d
  · rcases hlong with h | ⟨h, h'⟩ | ⟨h, h', h''⟩ | ⟨h, h', h'', h'''⟩
    all_goals
      go_enter Try.func4, Try.ntmps4
      go_wp2_with fail
      refine (jalive_any w).mono ?_
      rintro e w1 ⟨rfl, k1⟩
      have K1 := Lib.hid k1
      clear k1
      go_wp2_with fail
      go_ret
      exact ⟨rfl, K1.out⟩
  obtain ⟨n, rfl⟩ : ∃ n : Nat, a = n := ⟨a.toNat, by omega⟩
  obtain ⟨dn, rfl⟩ : ∃ n : Nat, d = n := ⟨d.toNat, by omega⟩
  have h1 : ¬ (n : Int) < 1 := by omega
  have h2 : ¬ 20 < (n : Int) := by omega
  have h3 : ¬ (dn : Int) < 1 := by omega
  have h4 : ¬ 16 < (dn : Int) := by omega
  have htold := deep_told m (n := n) (d := dn) (by omega) (by omega) (by omega) (by omega)
  have HTOLD := Lib.hid htold
  clear hlong htold
  go_enter Try.func4, Try.ntmps4
  go_wp2_with fail
  refine (jalive_any w).mono ?_
  rintro e w1 ⟨rfl, k1⟩
  have K1 := Lib.hid k1
  clear k1
  go_wp2_with fail
  go_loopw [7, 8] (fun v i wr => DeepLRel n m w v i wr) (fun _ i _ => n - (intOf i).toNat)
  case atStart => exact ⟨0, ⟨#[]⟩, Nat.zero_le _, rfl, rfl, rfl, by simp [ByteArray.size], K1.out⟩
  case round =>
    obtain ⟨k, s, hk, rfl, rfl, hs, hsz, hK⟩ := hrel
    have HK := Lib.hid hK
    have HS := Lib.hid hs
    have HSZ := Lib.hid hsz
    clear hK hs
    by_cases hlt : k < n
    · have hki : (k : Int) < (n : Int) := by omega
      cases m
      all_goals
        go_wp2_with fail
        go_roundw
        case rel => exact ⟨k + 1, _, by omega, by go_num, rfl, by rw [js_cat, HS.out, deepL_succ]; rfl, by rw [ByteArray.size_append]; exact Nat.le_trans (Nat.add_le_add_right hsz _) (by simp [ByteArray.size]; omega), HK.out⟩
        case measure => simp [intOf]; omega
    · obtain rfl : k = n := by omega
      have hki : ¬ (k : Int) < (k : Int) := by omega
      go_wp2_with fail
      go_loopw [7, 9] (fun v i w' => DeepRRel k m w v i w') (fun _ i _ => k - (intOf i).toNat)
      case atStart => exact ⟨0, _, Nat.zero_le _, rfl, rfl, by rw [js_cat, HS.out]; simp [deepR], by rw [ByteArray.size_append]; exact Nat.le_trans (Nat.add_le_add_right hsz _) (by simp [ByteArray.size]), HK.out⟩
      case round =>
        obtain ⟨j, t, hj, rfl, rfl, ht, htz, hK2⟩ := hrel
        have HK2 := Lib.hid hK2
        have HT := Lib.hid ht
        clear hK2 ht
        by_cases hjk : j < k
        · have hji : (j : Int) < (k : Int) := by omega
          cases m
          all_goals
            go_wp2_with fail
            go_roundw
            case rel => exact ⟨j + 1, _, by omega, by go_num, rfl, by rw [js_cat, HT.out, deepR_succ]; simp, by rw [ByteArray.size_append]; exact Nat.le_trans (Nat.add_le_add_right htz _) (by simp [ByteArray.size]; omega), HK2.out⟩
            case measure => simp [intOf]; omega
        · obtain rfl : j = k := by omega
          have hji : ¬ (j : Int) < (j : Int) := by omega
          have hall := jsAll_any t dn wr (by omega)
          have hlen := jsAll_len t.data.toList dn
          have hll : t.data.toList.length = t.size := by rw [Array.length_toList]; rfl
          rw [hll] at hlen
          have htold := HTOLD.out
          rw [← HT.out] at htold
          generalize jsAll t.data.toList dn = tot at hall hlen htold
          obtain ⟨l, e⟩ := tot
          simp only at hall hlen htold
          have HALL := Lib.hid hall
          have HLEN := Lib.hid hlen
          clear hall hlen hll
          by_cases hdn : dn < j
          · rw [if_pos hdn] at htold
            obtain ⟨rfl, t2⟩ := htold
            have hb1 : (dn : Int) < (j : Int) := by omega
            have hb2 : (dn : Int) ≤ (l.length : Int) := by omega
            clear hdn
            go_wp2_with fail
            refine HALL.out.mono ?_
            rintro e w2 ⟨v2, rfl, hown2, k2⟩
            obtain ⟨a2, c2, rfl⟩ := hown2.shape
            have K2 := Lib.hid (HK2.out.trans k2)
            clear hown2 k2
            go_wp2_with fail
            go_ret
            exact ⟨rfl, K2.out⟩
          · rw [if_neg hdn] at htold
            obtain ⟨rfl, t2⟩ := htold
            have hb1 : ¬ (dn : Int) < (j : Int) := by omega
            obtain ⟨q, hq, hq7⟩ := Option.map_eq_some_iff.1 t2
            obtain ⟨ini, rfl⟩ := List.getLast?_eq_some_iff.1 hq
            clear hdn t2 hq
            go_wp2_with fail
            refine HALL.out.mono ?_
            rintro e w2 ⟨v2, rfl, hown2, k2⟩
            obtain ⟨o2, c2, rfl, hin2⟩ := evsIn_of_owns hown2
            have K2 := Lib.hid (HK2.out.trans k2)
            have hlen := HLEN.out
            obtain ⟨N, hN⟩ : ∃ N, ini.length = N := ⟨_, rfl⟩
            rw [List.length_append, List.length_singleton, hN] at hin2 hlen
            obtain ⟨b1, f1, rfl, g0, -, -, -, -⟩ := hin2.get (k := N) (by omega) (by simp; omega)
            have hel : (ini ++ [q])[N]'(by simp; omega) = q := by subst hN; simp
            rw [hel, hq7] at g0
            have hroom := hin2.room
            have hmost := hin2.most
            unfold maxLen at hmost
            simp only [List.length_append, List.length_singleton, hN]
            clear hown2 k2 hin2 hel hq7 hN
            go_wp2_with fail
            go_ret
            exact ⟨rfl, K2.out⟩
end Go.Proofs.Ytbeocehadnhmnaa
