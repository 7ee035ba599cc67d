/-
  PackinLong's walk, whole.
-/
import Derived.Test.YtmcbdkhlbmhfeaaPackLongs
namespace Go.Proofs.Ytmcbdkhlbmhfeaa
open Go.RowKit Go.Tru

set_option maxHeartbeats 3200000 in
set_option maxRecDepth 100000 in
theorem packinLong_walk (s : ByteArray) (n form : Int) (w : World) (hks : s.size ≤ maxLen) (hn : -9223372036854775808 ≤ n ∧ n ≤ 9223372036854775807) (_ : -9223372036854775808 ≤ form ∧ form ≤ 9223372036854775807) :
    Calls Try.prog 5 #[.string s, .int .i64 n, .int .i64 form] w fun r w' => r = .returned (.bool true) ∧ Below w.heap.size w w' := by
  refine Calls.mono (R := fun r w' => r = .returned (.bool true) ∧ Keeps [] w w') ?_ (fun r w' h => ⟨h.1, h.2.all⟩)
  unfold maxLen at hks
  by_cases hk : s.size ≤ 100
  · have HVD := Lib.hid (fun W => refValid_any s W (by omega))
    have h100 : ¬ 100 < (s.size : Int) := by omega
    cases hu : utf8 s.data.toList
    · rw [hu] at HVD
      clear hu hk
      go_enter Try.func5, Try.ntmps5
      go_wp2_with fail
      refine (HVD.out w).mono ?_
      rintro e w0 ⟨rfl, rfl⟩
      go_wp2_with fail
      refine (palive_any w).mono ?_
      rintro e w1 ⟨rfl, k1⟩
      have K1 := Lib.hid k1
      clear k1
      go_wp2_with fail
      go_ret
      exact ⟨rfl, K1.out⟩
    by_cases hbad : n < 0 ∨ 15 < n
    · rw [hu] at HVD
      clear hu hk
      rcases (show n < 0 ∨ ¬ n < 0 ∧ 15 < n by omega) with h0 | ⟨h0, h1⟩
      all_goals
        clear hbad
        go_enter Try.func5, Try.ntmps5
        go_wp2_with fail
        refine (HVD.out w).mono ?_
        rintro e w0 ⟨rfl, rfl⟩
        go_wp2_with fail
        refine (palive_any w).mono ?_
        rintro e w1 ⟨rfl, k1⟩
        have K1 := Lib.hid k1
        clear k1
        go_wp2_with fail
        go_ret
        exact ⟨rfl, K1.out⟩
    · obtain ⟨m, rfl⟩ : ∃ m : Nat, n = m := ⟨n.toNat, by omega⟩
      have h3 : (RowKit.wrap64 (form.tmod 3 + 3)).tmod 3 = 0 ∨ (RowKit.wrap64 (form.tmod 3 + 3)).tmod 3 = 1 ∨ (RowKit.wrap64 (form.tmod 3 + 3)).tmod 3 = 2 := by
        have a1 := Int.lt_tmod_of_pos form (b := 3) (by decide)
        have a2 := Int.tmod_lt_of_pos form (b := 3) (by decide)
        have a3 : RowKit.wrap64 (form.tmod 3 + 3) = form.tmod 3 + 3 := by unfold RowKit.wrap64; omega
        rw [a3, Int.tmod_eq_emod_of_nonneg (by omega)]
        omega
      rcases h3 with h | h | h
      · exact long_0 s hk hu m (by omega) form h w
      · exact long_1 s hk hu m (by omega) form h w
      · exact long_2 s hk hu m (by omega) form h w
  · have h100 : 100 < (s.size : Int) := by omega
    clear hk
    go_enter Try.func5, Try.ntmps5
    go_wp2_with fail
    refine (palive_any w).mono ?_
    rintro e w1 ⟨rfl, k1⟩
    have K1 := Lib.hid k1
    clear k1
    go_wp2_with fail
    go_ret
    exact ⟨rfl, K1.out⟩
end Go.Proofs.Ytmcbdkhlbmhfeaa
