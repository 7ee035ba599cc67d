/-
  CborinDeep's walk.
-/
import Derived.Test.YtepajbimhpmpjaaCborAlive
import Derived.Test.YtepajbimhpmpjaaCborDeepPlain
namespace Go.Tru
theorem cat_list (s t : ByteArray) : (s ++ t).data.toList = s.data.toList ++ t.data.toList := by
  rw [ByteArray.data_append, Array.toList_append]
end Go.Tru
namespace Go.Proofs.Ytepajbimhpmpjaa
open Go.RowKit Go.Tru

def DeepRel (n : Nat) (w : World) (v i : Value) (wr : World) : Prop :=
  ∃ (k : Nat) (s : ByteArray), k ≤ n ∧ i = .int .i64 k ∧ v = .string s ∧ s.data.toList = List.replicate k 129 ∧ s.size = k ∧ Keeps [] w wr

set_option maxHeartbeats 1600000 in
set_option maxRecDepth 100000 in
theorem cborinDeep_walk (a d : Int) (w : World) (ha : -9223372036854775808 ≤ a ∧ a ≤ 9223372036854775807) (hdd : -9223372036854775808 ≤ d ∧ d ≤ 9223372036854775807) :
    Calls Try.prog 5 #[.int .i64 a, .int .i64 d] w fun r w' => r = .returned (.bool true) ∧ Below w.heap.size w w' := by
  refine Calls.mono (R := fun r w' => r = .returned (.bool true) ∧ Keeps [] w w') ?_ (fun r w' h => ⟨h.1, h.2.all⟩)
  by_cases hlong : a < 1 ∨ ¬ a < 1 ∧ 20 < a ∨ ¬ a < 1 ∧ ¬ 20 < a ∧ d < 1 ∨ ¬ a < 1 ∧ ¬ 20 < a ∧ ¬ d < 1 ∧ 16 < d
  · rcases hlong with h | ⟨h, h'⟩ | ⟨h, h', h''⟩ | ⟨h, h', h'', h'''⟩
    all_goals
      go_enter Try.func5, Try.ntmps5
      go_wp2_with fail
      refine (calive_any w).mono ?_
      rintro e w1 ⟨rfl, k1⟩
      have K1 := Lib.hid k1
      clear k1
      go_wp2_with fail
      go_ret
      exact ⟨rfl, K1.out⟩
  obtain ⟨n, rfl⟩ : ∃ n : Nat, a = n := ⟨a.toNat, by omega⟩
  have h1 : ¬ (n : Int) < 1 := by omega
  have h2 : ¬ 20 < (n : Int) := by omega
  have h3 : ¬ d < 1 := by omega
  have h4 : ¬ 16 < d := by omega
  clear hlong
  go_enter Try.func5, Try.ntmps5
  go_wp2_with fail
  refine (calive_any w).mono ?_
  rintro e w1 ⟨rfl, k1⟩
  have K1 := Lib.hid k1
  clear k1
  go_wp2_with fail
  go_loopw [5, 6] (fun v i wr => DeepRel n w v i wr) (fun _ i _ => n - (intOf i).toNat)
  case atStart => exact ⟨0, ⟨#[]⟩, Nat.zero_le _, rfl, rfl, rfl, rfl, K1.out⟩
  case round =>
    obtain ⟨k, s, hk, rfl, rfl, hs, hsz, hK⟩ := hrel
    have HK := Lib.hid hK
    have HS := Lib.hid hs
    have HSZ := Lib.hid hsz
    clear hK hs
    by_cases hlt : k < n
    · have hki : (k : Int) < (n : Int) := by omega
      go_wp2_with fail
      go_roundw
      case rel => exact ⟨k + 1, _, by omega, by go_num, rfl, by rw [cat_list, HS.out, List.replicate_succ'], by rw [ByteArray.size_append, HSZ.out]; rfl, HK.out⟩
      case measure => simp [intOf]; omega
    · obtain rfl : k = n := by omega
      have hki : ¬ (k : Int) < (k : Int) := by omega
      obtain ⟨hd1, hd2⟩ := deep_all (d := d) (by omega) k
      have hall := cborAll_any (s ++ ⟨#[5]⟩) d wr (by rw [ByteArray.size_append, hsz]; show k + 1 ≤ _; omega)
      rw [cat_list, HS.out] at hall
      have HALL := Lib.hid hall
      have HD1 := Lib.hid hd1
      have HD2 := Lib.hid hd2
      clear hall hd1 hd2
      go_wp2_with fail
      refine HALL.out.mono ?_
      rintro e w2 ⟨v2, rfl, hown2, k2⟩
      obtain ⟨tot, htot⟩ : ∃ tot, cborAll (List.replicate k 129 ++ [5]) d = tot := ⟨_, rfl⟩
      have hd1 := HD1.out
      have hd2 := HD2.out
      rw [show cborAll (List.replicate k 129 ++ (⟨#[5]⟩ : ByteArray).data.toList) d = tot from htot] at hown2
      rw [show cborAll (List.replicate k 129 ++ (⟨#[5]⟩ : ByteArray).data.toList) d = tot from htot]
      rw [htot] at hd1 hd2
      obtain ⟨a2, c2, rfl⟩ := hown2.shape
      have K2 := Lib.hid (HK.out.trans k2)
      clear hown2 k2 HD1 HD2 HALL htot
      by_cases hdn : d < (k : Int)
      · rw [if_pos hdn] at hd1 hd2
        have hb1 : (tot.2 == 4) = true := by simp [hd1]
        have hb2 : ((tot.1.length : Int) == d) = true := by simp [hd2]
        clear hd1 hd2
        go_wp2_with fail
        go_ret
        exact ⟨rfl, K2.out⟩
      · rw [if_neg hdn] at hd1 hd2
        have hb1 : (tot.2 == 0) = true := by simp [hd1]
        have hb2 : ((tot.1.length : Int) == 2 * (k : Int) + 1) = true := by simp [hd2]
        clear hd1 hd2
        go_wp2_with fail
        go_ret
        exact ⟨rfl, K2.out⟩
end Go.Proofs.Ytepajbimhpmpjaa
