/-
  truchmanbook.SameInts: its contract.
-/
import Derived.Test.YtigajmfadfinpaaRows
import Derived.Test.YtigajmfadfinpaaTru
import Derived.Deep.QuietTactic
import Derived.BigQuiet
namespace Go.Tru
/-- an owned row of ints, as a slice of ints -/
theorem intsIn_of_owns {w : World} {B E : Nat} {v : Value} {xs : List Int} (h : w.ownsRow B E 1 v xs.length (xs.map (Value.int .i64))) (hf : ∀ x ∈ xs, -9223372036854775808 ≤ x ∧ x ≤ 9223372036854775807) :
    ∃ o c, v = .slice o xs.length c ∧ IntsIn w o xs.length c xs := by
  have hlt := h.lt
  rcases h.2 with ⟨rfl, h0⟩ | ⟨g, cap, cur, rfl, hb, hg, hn, hm, _⟩
  · exact ⟨none, 0, by rw [h0], rfl, by omega, Nat.zero_le _, Or.inl h0, hf⟩
  · refine ⟨_, cap, rfl, rfl, hn, hm, Or.inr ⟨g, 0, rfl, (hlt g rfl).2, fun i x hx => ?_⟩, hf⟩
    have hl : i < xs.length := (List.getElem?_eq_some_iff.1 hx).1
    rw [Nat.zero_add, h.cellAt i (by omega)]
    simp [hx]
end Go.Tru
namespace Go.Proofs.Ytigajmfadfinpaa
open Go.RowKit Go.Tru

set_option maxHeartbeats 400000 in
theorem sameInts_any (o1 o2 : Option Addr) (n1 c1 n2 c2 : Nat) (xs ys : List Int) (w : World) (h1 : IntsIn w o1 n1 c1 xs) (h2 : IntsIn w o2 n2 c2 ys) :
    Calls Try.prog 15 #[.slice o1 n1 c1, .slice o2 n2 c2] w fun e w' => e = .returned (.bool (decide (xs = ys))) ∧ Keeps [] w w' := by
  have hl1 := h1.len
  have hl2 := h2.len
  have m1 : n1 ≤ 9223372036854775807 := by have := h1.room; have := h1.most; unfold maxLen at *; omega
  have m2 : n2 ≤ 9223372036854775807 := by have := h2.room; have := h2.most; unfold maxLen at *; omega
  by_cases hn : n1 = n2
  · subst hn
    have H1 := Lib.hid h1
    have H2 := Lib.hid h2
    have L1 := Lib.hid hl1
    have L2 := Lib.hid hl2
    clear h1 h2 hl1 hl2
    go_enter Try.func15, Try.ntmps15
    go_wp2_with fail
    go_loopw [5] (fun i wr => ∃ k : Nat, k ≤ n1 ∧ i = .int .i64 k ∧ xs.take k = ys.take k ∧ Keeps [] w wr) (fun i _ => n1 - (intOf i).toNat)
    case atStart => exact ⟨0, Nat.zero_le _, rfl, by simp, Keeps.refl _ _⟩
    case round =>
      obtain ⟨k, hk, rfl, he, hK⟩ := hrel
      by_cases hlt : k < n1
      · have hx : k < xs.length := by rw [L1.out]; exact hlt
        have hy : k < ys.length := by rw [L2.out]; exact hlt
        obtain ⟨b1, f1, rfl, g1⟩ := (H1.out.keeps hK).get hlt hx
        obtain ⟨b2, f2, rfl, g2⟩ := (H2.out.keeps hK).get hlt hy
        have hi : (k : Int) < (n1 : Int) := by omega
        have HE := Lib.hid he
        have HK := Lib.hid hK
        have hX : xs.take (k + 1) = xs.take k ++ [xs[k]] := List.take_succ_eq_append_getElem hx
        have hY : ys.take (k + 1) = ys.take k ++ [ys[k]] := List.take_succ_eq_append_getElem hy
        have HX := Lib.hid hX
        have HY := Lib.hid hY
        clear he hK hX hY
        by_cases hxy : xs[k] = ys[k]
        · have hb : (xs[k] == ys[k]) = true := by rw [hxy]; simp
          have HXY := Lib.hid hxy
          clear hxy
          go_wp2_with fail
          go_quiet (fail)
          go_wp2_with fail
          go_roundw
          case rel => exact ⟨k + 1, by omega, by go_num, by rw [HX.out, HY.out, HE.out, HXY.out], HK.out.drewN _⟩
          case measure => simp [intOf]; omega
        · have hb : (xs[k] == ys[k]) = false := by simpa using hxy
          go_wp2_with fail
          go_quiet (fail)
          go_wp2_with fail
          go_ret
          refine ⟨ret_bool ?_, HK.out.drewN _⟩
          simp only [Bool.false_eq, decide_eq_false_iff_not]
          rintro rfl
          exact hxy rfl
      · obtain rfl : k = n1 := by omega
        have HK := Lib.hid hK
        have HE := Lib.hid he
        clear hK he
        go_wp2_with fail
        go_ret
        refine ⟨ret_bool ?_, HK.out⟩
        have e := HE.out
        rw [List.take_of_length_le (by rw [L1.out]; omega), List.take_of_length_le (by rw [L2.out]; omega)] at e
        simp [e]
  · have hne : ((n1 : Int) != (n2 : Int)) = true := by simp; omega
    have hd : decide (xs = ys) = false := by
      simp only [decide_eq_false_iff_not]; rintro rfl; omega
    rw [hd]
    clear h1 h2 hl1 hl2 hd hn
    go_enter Try.func15, Try.ntmps15
    go_wp2_with fail
    go_ret
    exact ⟨rfl, Keeps.refl _ _⟩
end Go.Proofs.Ytigajmfadfinpaa
