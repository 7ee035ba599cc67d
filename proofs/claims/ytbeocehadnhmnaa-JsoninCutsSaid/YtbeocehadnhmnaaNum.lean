/-
  decimal.Number in the middle of a block: the contracts of add and Step.
-/
import Derived.Test.YtbeocehadnhmnaaRows
import Derived.Test.YtbeocehadnhmnaaDecModel
import Derived.Shelf.Bits.Mul64
import Derived.Laws.Externs
namespace Go.Proofs.Ytbeocehadnhmnaa
open Go.RowKit Go.Tru

set_option maxHeartbeats 1000000 in
theorem dec_mul (x y : Nat) (hx : x < 18446744073709551616) (hy : y < 18446744073709551616) (w : World) :
    Calls Try.prog 67 #[.int .u64 x, .int .u64 y] w fun e w' => e = .returned (.tuple #[.int .u64 ((x * y / 18446744073709551616 : Nat) : Int), .int .u64 ((x * y % 18446744073709551616 : Nat) : Int)]) ∧ w = w' := by
  obtain ⟨bd, bt, bw, hhi⟩ := Lib.mul64_hi x y hx hy
  have ba := Lib.half_mul_le (a := x / 4294967296) (b := y / 4294967296) (by omega) (by omega)
  have bb := Lib.half_mul_le (a := x / 4294967296) (b := y % 4294967296) (by omega) (by omega)
  have bc := Lib.half_mul_le (a := x % 4294967296) (b := y / 4294967296) (by omega) (by omega)
  have ba' : x / 4294967296 * (y / 4294967296) < 18446744073709551616 := by omega
  have bb' : x / 4294967296 * (y % 4294967296) < 18446744073709551616 := by omega
  have bc' : x % 4294967296 * (y / 4294967296) < 18446744073709551616 := by omega
  have bh1 : x / 4294967296 * (y / 4294967296) + (x / 4294967296 * (y % 4294967296) + x % 4294967296 * (y % 4294967296) / 4294967296) / 4294967296 < 18446744073709551616 := by omega
  have bh : x / 4294967296 * (y / 4294967296) + (x / 4294967296 * (y % 4294967296) + x % 4294967296 * (y % 4294967296) / 4294967296) / 4294967296 + ((x / 4294967296 * (y % 4294967296) + x % 4294967296 * (y % 4294967296) / 4294967296) % 4294967296 + x % 4294967296 * (y / 4294967296)) / 4294967296 < 18446744073709551616 := by omega
  go_enter Try.func67, Try.ntmps67
  go_wp2
  simp only [Mul64.maskN x hx, Mul64.maskN y hy, Mul64.divN, Mul64.mulN, Mul64.addN, Mul64.wrapN _ bd, Mul64.wrapN _ bb', Mul64.wrapN _ bt, Mul64.maskN _ bt, Mul64.wrapN _ bc', Mul64.wrapN _ bw, Mul64.wrapN _ ba', Mul64.wrapN _ bh1, Mul64.wrapN _ bh, Mul64.wrapM (x * y)]
  rw [hhi]
  go_ret2
  exact ⟨rfl, rfl⟩

theorem dec_add64 (x y : Int) (hx : 0 ≤ x) (hy : 0 ≤ y) (w : World) :
    (callFunc 68 #[.int .u64 x, .int .u64 y, .int .u64 0]).run Try.prog w = .ok (.value (.tuple #[.int .u64 ((x + y) % 18446744073709551616), .int .u64 ((x + y) / 18446744073709551616)])) w := by
  rw [run_callFunc_extern Try.func68 (by kernel_rfl) (by kernel_rfl) (by kernel_rfl) (e := add64Entry) (by kernel_rfl), run_add64 x y 0 hx hy (by omega) (by omega)]
  simp [Result.andThen]

theorem num_cell {w : World} {b : Nat} {pre post : List Value} {n : Num} {t : TypeId} {off : Nat} (h : Has w b (pre ++ n.cells ++ post) t) (ho : off = pre.length) :
    w.cell? ⟨b, off, none⟩ = some (.bool n.neg) ∧ w.cell? ⟨b, off + 1, none⟩ = some (.bool n.minus) ∧ w.cell? ⟨b, off + 2, none⟩ = some (.bool n.digits) ∧ w.cell? ⟨b, off + 3, none⟩ = some (.bool n.zero) ∧
      w.cell? ⟨b, off + 4, none⟩ = some (.int .u64 n.v) ∧ w.cell? ⟨b, off + 5, none⟩ = some (.bool n.top) ∧ w.cell? ⟨b, off + 6, none⟩ = some (.bool n.over) ∧ w.cell? ⟨b, off + 7, none⟩ = some (.int .i64 n.e) :=
  ⟨mid_cell h ho 0 (by simp [Num.cells]), mid_cell h ho 1 (by simp [Num.cells]), mid_cell h ho 2 (by simp [Num.cells]), mid_cell h ho 3 (by simp [Num.cells]), mid_cell h ho 4 (by simp [Num.cells]), mid_cell h ho 5 (by simp [Num.cells]), mid_cell h ho 6 (by simp [Num.cells]), mid_cell h ho 7 (by simp [Num.cells])⟩

set_option maxHeartbeats 1000000 in
theorem num_add (b : Nat) (pre post : List Value) (t : TypeId) (n : Num) (d : Nat) (w : World) (h : Has w b (pre ++ n.cells ++ post) t) (off : Nat) (hoff : off = pre.length) (hd : d ≤ 9) (hv : n.v < 18446744073709551616) :
    Calls Try.prog 61 #[.pointer (some ⟨b, off, none⟩), .int .u64 d] w fun e w' => e = .returned (.tuple #[]) ∧ Has w' b (pre ++ (n.add d).cells ++ post) t ∧ Keeps [b] w w' := by
  obtain ⟨neg, minus, digits, zero, v, top, over, e⟩ := n
  have H := Lib.hid h
  obtain ⟨_, _, _, _, g4, g5, g6, _⟩ := num_cell h hoff
  have f4 := h.free (off + 4)
  have f5 := h.free (off + 5)
  have f6 := h.free (off + 6)
  have HO := Lib.hid hoff
  have hm := dec_mul v 10 hv (by omega)
  have ha := fun W => dec_add64 ((v : Int) * 10 % 18446744073709551616) d (by omega) (by omega) W
  clear h hoff
  cases top with
  | true =>
    go_enter Try.func61, Try.ntmps61
    go_wp2
    (try simp only [Exit.inBlock, Exit.then])
    refine bodyPost_ret (results_none rfl _ _ _) rfl ?_
    refine ⟨rfl, ?_, (Keeps.refl _ _).set1 _⟩
    exact (mid_set H.out HO.out 6 _ (by simp [Num.cells])).conv (by simp [Num.cells, Num.add])
  | false =>
    cases over with
    | true =>
      go_enter Try.func61, Try.ntmps61
      go_wp2
      (try simp only [Exit.inBlock, Exit.then])
      refine bodyPost_ret (results_none rfl _ _ _) rfl ?_
      refine ⟨rfl, ?_, (Keeps.refl _ _).set1 _⟩
      exact (mid_set H.out HO.out 6 _ (by simp [Num.cells])).conv (by simp [Num.cells, Num.add])
    | false =>
      go_enter Try.func61, Try.ntmps61
      go_wp2_with (go_at_call 67; refine (hm _).mono ?_; rintro e w' ⟨rfl, rfl⟩)
      go_end0
      refine ⟨rfl, ?_, (((Keeps.refl _ _).set1 _).set1 _).set1 _⟩
      have h1 : (v : Int) * 10 / 18446744073709551616 + ((v : Int) * 10 % 18446744073709551616 + d) / 18446744073709551616 = (((v * 10 + d) / 18446744073709551616 : Nat) : Int) := by omega
      have h2 : ((v : Int) * 10 + d) % 18446744073709551616 = (((v * 10 + d) % 18446744073709551616 : Nat) : Int) := by omega
      have h3 : ((((v * 10 + d) / 18446744073709551616 : Nat) : Int) == 1) = ((v * 10 + d) / 18446744073709551616 == 1) := by rw [Bool.eq_iff_iff, beq_iff_eq, beq_iff_eq]; omega
      have h4 : decide (1 < (((v * 10 + d) / 18446744073709551616 : Nat) : Int)) = decide (1 < (v * 10 + d) / 18446744073709551616) := by rw [decide_eq_decide]; omega
      rw [h1, h2, h3, h4]
      exact (mid_set (mid_set (mid_set H.out HO.out 4 _ (by simp [Num.cells])) HO.out 5 _ (by simp [Num.cells])) HO.out 6 _ (by simp [Num.cells])).conv (by simp [Num.cells, Num.add])

theorem num_float (n : Num) (x : Int) (hd : isDig x = false) (he : n.e = 0) (hg : n.digits = true) (hx : x = 46 ∨ x = 101 ∨ x = 69) : n.took x = false ∧ n.after x = { n with e := 6 } := by
  constructor
  · simp [Num.took, hd, hg]
  · unfold Num.after
    rw [if_neg (by rw [he]; simp), if_neg (by simp [hd]), if_neg (by simp [hg]), if_pos ⟨hg, hx⟩]

set_option maxHeartbeats 1000000 in
set_option maxRecDepth 100000 in
theorem num_step (b : Nat) (pre post : List Value) (t : TypeId) (n : Num) (x : Int) (w : World) (h : Has w b (pre ++ n.cells ++ post) t) (off : Nat) (hoff : off = pre.length) (hx : 0 ≤ x ∧ x ≤ 255) (hv : n.v < 18446744073709551616) :
    Calls Try.prog 49 #[.pointer (some ⟨b, off, none⟩), .int .u8 x] w fun e w' => e = .returned (.tuple #[.bool (n.took x), .int .i64 (n.after x).e]) ∧ Has w' b (pre ++ (n.after x).cells ++ post) t ∧ Keeps [b] w w' := by
  obtain ⟨hx0, hx1⟩ := hx
  obtain ⟨neg, minus, digits, zero, v, top, over, e⟩ := n
  have H := Lib.hid h
  obtain ⟨g0, g1, g2, g3, g4, g5, g6, g7⟩ := num_cell h hoff
  have f0 := h.free off
  have f1 := h.free (off + 1)
  have f2 := h.free (off + 2)
  have f3 := h.free (off + 3)
  have f7 := h.free (off + 7)
  have HO := Lib.hid hoff
  clear h hoff
  by_cases he : e = 0
  · subst he
    by_cases hd : 48 ≤ x ∧ x ≤ 57
    · have hdig : isDig x = true := by simpa [isDig] using hd
      obtain ⟨hd1, hd2⟩ := hd
      cases zero with
      | false =>
        have hadd := num_add b pre post t ⟨neg, minus, digits, false, v, top, over, 0⟩ (x - 48).toNat w H.out off HO.out (by omega) hv
        rw [show ((x - 48).toNat : Int) = x - 48 by omega] at hadd
        obtain ⟨m, hm⟩ : ∃ m, m = Num.add ⟨neg, minus, digits, false, v, top, over, 0⟩ (x - 48).toNat := ⟨_, rfl⟩
        rw [← hm] at hadd
        have hdg : m.digits = digits := by rw [hm]; unfold Num.add; split <;> rfl
        have hme : m.e = 0 := by rw [hm]; exact (add_neg _ _).2.2
        have hafter : Num.after ⟨neg, minus, digits, false, v, top, over, 0⟩ x = { m with zero := !digits && x == 48, digits := true } := by
          unfold Num.after
          rw [if_neg (by simp), if_pos ⟨hdig, rfl⟩, hm]
        have htook : Num.took ⟨neg, minus, digits, false, v, top, over, 0⟩ x = true := by simp [Num.took, hdig]
        have HM := Lib.hid hme
        have HA := Lib.hid hafter
        have HT := Lib.hid htook
        clear hafter htook hm hme hdig hv
        cases digits
        all_goals
          go_enter Try.func49, Try.ntmps49
          go_wp2_with (go_at_call 61; refine hadd.mono ?_; rintro e w1 ⟨rfl, h1, k1⟩; obtain ⟨c0, c1, c2, c3, c4, c5, c6, c7⟩ := num_cell h1 HO.out; rw [hdg] at c2; have e2 := h1.free (off + 2); have e3 := h1.free (off + 3); have H1 := Lib.hid h1; have K1 := Lib.hid k1; clear h1 k1 g0 g1 g2 g3 g4 g5 g6 g7 f0 f1 f2 f3 f7)
          go_ret2
          rw [HT.out, HA.out]
          refine ⟨?_, ?_, (K1.out.set1 _).set1 _⟩
          · simp [HM.out]
          · exact (mid_set (mid_set H1.out HO.out 3 _ (by simp [Num.cells])) HO.out 2 _ (by simp [Num.cells])).conv (by simp [Num.cells])
      | true =>
        have hafter : ∀ g, Num.after ⟨neg, minus, g, true, v, top, over, 0⟩ x = ⟨neg, minus, g, true, v, top, over, 2⟩ := fun g => by
          unfold Num.after
          rw [if_neg (by simp), if_neg (by simp), if_neg (by omega), if_neg (by omega), if_pos (Or.inr hdig)]
        have htook : ∀ g, Num.took ⟨neg, minus, g, true, v, top, over, 0⟩ x = false := fun g => by
          have : ¬ x = 45 := by omega
          simp [Num.took, this]
        have HA := Lib.hid hafter
        have HT := Lib.hid htook
        have n1 : (x == 45) = false := by rw [beq_eq_false_iff_ne]; omega
        have n2 : (x == 46) = false := by rw [beq_eq_false_iff_ne]; omega
        have n3 : (x == 69) = false := by rw [beq_eq_false_iff_ne]; omega
        have n4 : (x == 101) = false := by rw [beq_eq_false_iff_ne]; omega
        clear hafter htook hdig hv
        cases digits
        all_goals
          go_enter Try.func49, Try.ntmps49
          go_wp2
          go_region
          go_wp2
          go_ret2
          rw [HT.out, HA.out]
          exact ⟨rfl, (mid_set H.out HO.out 7 _ (by simp [Num.cells])).drew.conv (by simp [Num.cells]), ((Keeps.refl _ _).set1 _).drew⟩
    · have hdig : isDig x = false := by simpa [isDig] using hd
      by_cases h45 : x = 45
      · subst h45
        have HV := Lib.hid hv
        clear hd hdig hv
        cases digits with
        | true =>
          cases minus
          all_goals
            go_enter Try.func49, Try.ntmps49
            go_wp2
            go_region
            go_wp2
            go_ret2
            refine ⟨?_, ?_, ?_⟩
            · simp [Num.took, Num.after, isDig]
            · exact H.out.drew.conv (by simp [Num.after, isDig])
            · exact (Keeps.refl _ _).drew
        | false =>
          cases minus with
          | true =>
            go_enter Try.func49, Try.ntmps49
            go_wp2
            go_region
            go_wp2
            go_ret2
            rw [show Num.took ⟨neg, true, false, zero, v, top, over, 0⟩ 45 = false by simp [Num.took, isDig], show Num.after ⟨neg, true, false, zero, v, top, over, 0⟩ 45 = ⟨neg, true, false, zero, v, top, over, 2⟩ by simp [Num.after, isDig]]
            exact ⟨rfl, (mid_set H.out HO.out 7 _ (by simp [Num.cells])).drew.conv (by simp [Num.cells]), ((Keeps.refl _ _).set1 _).drew⟩
          | false =>
            go_enter Try.func49, Try.ntmps49
            go_wp2
            go_ret2
            rw [show Num.took ⟨neg, false, false, zero, v, top, over, 0⟩ 45 = true by simp [Num.took, isDig], show Num.after ⟨neg, false, false, zero, v, top, over, 0⟩ 45 = ⟨true, true, false, zero, v, top, over, 0⟩ by simp [Num.after, isDig]]
            exact ⟨rfl, (mid_set0 (mid_set H.out HO.out 1 _ (by simp [Num.cells])) HO.out _ (by simp [Num.cells])).conv (by simp [Num.cells]), ((Keeps.refl _ _).set1 _).set1 _⟩
      · cases digits with
        | false =>
          have hafter : Num.after ⟨neg, minus, false, zero, v, top, over, 0⟩ x = ⟨neg, minus, false, zero, v, top, over, 2⟩ := by
            unfold Num.after
            rw [if_neg (by simp), if_neg (by simp [hdig]), if_neg (by simp [h45]), if_neg (by simp), if_pos (Or.inl rfl)]
          have htook : Num.took ⟨neg, minus, false, zero, v, top, over, 0⟩ x = false := by simp [Num.took, hdig, h45]
          have HA := Lib.hid hafter
          have HT := Lib.hid htook
          clear hafter htook hdig hv
          rcases (show x < 48 ∨ 57 < x by omega) with hl | hl
          all_goals
            clear hd
            go_enter Try.func49, Try.ntmps49
            go_wp2
            go_region
            go_wp2
            go_ret2
            rw [HT.out, HA.out]
            exact ⟨rfl, (mid_set H.out HO.out 7 _ (by simp [Num.cells])).drew.conv (by simp [Num.cells]), ((Keeps.refl _ _).set1 _).drew⟩
        | true =>
          by_cases hf : x = 46 ∨ x = 101 ∨ x = 69
          · clear hd h45
            rcases hf with rfl | rfl | rfl
            all_goals
              have HD := Lib.hid hdig
              have HV := Lib.hid hv
              clear hdig hv
              go_enter Try.func49, Try.ntmps49
              go_wp2
              go_region
              go_wp2
              go_ret2
              have hafter := num_float ⟨neg, minus, true, zero, v, top, over, 0⟩ _ HD.out rfl rfl (by omega)
              rw [hafter.1, hafter.2]
              exact ⟨rfl, (mid_set H.out HO.out 7 _ (by simp [Num.cells])).drew.conv (by simp [Num.cells]), ((Keeps.refl _ _).set1 _).drew⟩
          · have hafter : Num.after ⟨neg, minus, true, zero, v, top, over, 0⟩ x = ⟨neg, minus, true, zero, v, top, over, 0⟩ := by
              unfold Num.after
              rw [if_neg (by simp), if_neg (by simp [hdig]), if_neg (by simp), if_neg (by simp [hf]), if_neg (by simp [hdig])]
            have htook : Num.took ⟨neg, minus, true, zero, v, top, over, 0⟩ x = false := by simp [Num.took, hdig]
            have HA := Lib.hid hafter
            have HT := Lib.hid htook
            have n2 : (x == 46) = false := by rw [beq_eq_false_iff_ne]; omega
            have n3 : (x == 101) = false := by rw [beq_eq_false_iff_ne]; omega
            have n4 : (x == 69) = false := by rw [beq_eq_false_iff_ne]; omega
            clear hafter htook hdig hv hf
            rcases (show x < 48 ∨ 57 < x by omega) with hl | hl
            all_goals
              clear hd
              go_enter Try.func49, Try.ntmps49
              go_wp2
              go_region
              go_wp2
              go_ret2
              rw [HT.out, HA.out]
              exact ⟨rfl, H.out.drew, (Keeps.refl _ _).drew⟩
  · go_enter Try.func49, Try.ntmps49
    go_wp2
    all_goals
      go_region
      go_wp2
      go_ret2
      refine ⟨?_, ?_, (Keeps.refl _ _).drew⟩
      · simp [Num.took, Num.after, he]
      · exact H.out.drew.conv (by simp [Num.after, he])
end Go.Proofs.Ytbeocehadnhmnaa
