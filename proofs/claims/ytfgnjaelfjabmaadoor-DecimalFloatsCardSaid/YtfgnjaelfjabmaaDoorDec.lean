/-
  decimal.Number: the contracts of add, Step and End.
-/
import Derived.Test.YtfgnjaelfjabmaaDoorRows
import Derived.Test.YtfgnjaelfjabmaaDoorDecModel
import Derived.Shelf.Bits.Mul64
import Derived.Laws.Externs
namespace Go.Proofs.YtfgnjaelfjabmaaDoor
open Go.RowKit Go.Tru

set_option maxHeartbeats 1000000 in
theorem dec_mul (x y : Nat) (hx : x < 18446744073709551616) (hy : y < 18446744073709551616) (w : World) :
    Calls Tryd.prog 17 #[.int .u64 x, .int .u64 y] w fun e w' => e = .returned (.tuple #[.int .u64 ((x * y / 18446744073709551616 : Nat) : Int), .int .u64 ((x * y % 18446744073709551616 : Nat) : Int)]) ∧ w = w' := by
  obtain ⟨bd, bt, bw, hhi⟩ := Lib.mul64_hi x y hx hy
  have ba := Lib.half_mul_le (a := x / 4294967296) (b := y / 4294967296) (by omega) (by omega)
  have bb := Lib.half_mul_le (a := x / 4294967296) (b := y % 4294967296) (by omega) (by omega)
  have bc := Lib.half_mul_le (a := x % 4294967296) (b := y / 4294967296) (by omega) (by omega)
  have ba' : x / 4294967296 * (y / 4294967296) < 18446744073709551616 := by omega
  have bb' : x / 4294967296 * (y % 4294967296) < 18446744073709551616 := by omega
  have bc' : x % 4294967296 * (y / 4294967296) < 18446744073709551616 := by omega
  have bh1 : x / 4294967296 * (y / 4294967296) + (x / 4294967296 * (y % 4294967296) + x % 4294967296 * (y % 4294967296) / 4294967296) / 4294967296 < 18446744073709551616 := by omega
  have bh : x / 4294967296 * (y / 4294967296) + (x / 4294967296 * (y % 4294967296) + x % 4294967296 * (y % 4294967296) / 4294967296) / 4294967296 + ((x / 4294967296 * (y % 4294967296) + x % 4294967296 * (y % 4294967296) / 4294967296) % 4294967296 + x % 4294967296 * (y / 4294967296)) / 4294967296 < 18446744073709551616 := by omega
  go_enter Tryd.func17, Tryd.ntmps17
  go_wp2
  simp only [Mul64.maskN x hx, Mul64.maskN y hy, Mul64.divN, Mul64.mulN, Mul64.addN, Mul64.wrapN _ bd, Mul64.wrapN _ bb', Mul64.wrapN _ bt, Mul64.maskN _ bt, Mul64.wrapN _ bc', Mul64.wrapN _ bw, Mul64.wrapN _ ba', Mul64.wrapN _ bh1, Mul64.wrapN _ bh, Mul64.wrapM (x * y)]
  rw [hhi]
  go_ret2
  exact ⟨rfl, rfl⟩

theorem dec_add64 (x y : Int) (hx : 0 ≤ x) (hy : 0 ≤ y) (w : World) :
    (callFunc 18 #[.int .u64 x, .int .u64 y, .int .u64 0]).run Tryd.prog w = .ok (.value (.tuple #[.int .u64 ((x + y) % 18446744073709551616), .int .u64 ((x + y) / 18446744073709551616)])) w := by
  rw [run_callFunc_extern Tryd.func18 (by kernel_rfl) (by kernel_rfl) (by kernel_rfl) (e := add64Entry) (by kernel_rfl), run_add64 x y 0 hx hy (by omega) (by omega)]
  simp [Result.andThen]

set_option maxHeartbeats 1000000 in
theorem num_add (b : Nat) (t : TypeId) (n : Num) (d : Nat) (w : World) (h : Has w b n.cells t) (hd : d ≤ 9) (hv : n.v < 18446744073709551616) :
    Calls Tryd.prog 15 #[.pointer (some ⟨b, 0, none⟩), .int .u64 d] w fun e w' => e = .returned (.tuple #[]) ∧ Has w' b (n.add d).cells t ∧ Keeps [b] w w' := by
  obtain ⟨neg, minus, digits, zero, v, top, over, e⟩ := n
  have H := Lib.hid h
  have g4 := h.cell 4
  have g5 := h.cell 5
  have g6 := h.cell 6
  have f4 := h.free 4
  have f5 := h.free 5
  have f6 := h.free 6
  simp only [Num.cells, List.getElem?_cons_zero, List.getElem?_cons_succ] at g4 g5 g6
  have hm := dec_mul v 10 hv (by omega)
  have ha := fun W => dec_add64 ((v : Int) * 10 % 18446744073709551616) d (by omega) (by omega) W
  clear h
  cases top with
  | true =>
    go_enter Tryd.func15, Tryd.ntmps15
    go_wp2
    (try simp only [Exit.inBlock, Exit.then])
    refine bodyPost_ret (results_none rfl _ _ _) rfl ?_
    refine ⟨rfl, ?_, (Keeps.refl _ _).set1 _⟩
    exact (H.out.set 6 _).conv (by simp [Num.cells, Num.add])
  | false =>
    cases over with
    | true =>
      go_enter Tryd.func15, Tryd.ntmps15
      go_wp2
      (try simp only [Exit.inBlock, Exit.then])
      refine bodyPost_ret (results_none rfl _ _ _) rfl ?_
      refine ⟨rfl, ?_, (Keeps.refl _ _).set1 _⟩
      exact (H.out.set 6 _).conv (by simp [Num.cells, Num.add])
    | false =>
      go_enter Tryd.func15, Tryd.ntmps15
      go_wp2_with (go_at_call 17; refine (hm _).mono ?_; rintro e w' ⟨rfl, rfl⟩)
      go_end0
      refine ⟨rfl, ?_, (((Keeps.refl _ _).set1 _).set1 _).set1 _⟩
      have h1 : (v : Int) * 10 / 18446744073709551616 + ((v : Int) * 10 % 18446744073709551616 + d) / 18446744073709551616 = (((v * 10 + d) / 18446744073709551616 : Nat) : Int) := by omega
      have h2 : ((v : Int) * 10 + d) % 18446744073709551616 = (((v * 10 + d) % 18446744073709551616 : Nat) : Int) := by omega
      have h3 : ((((v * 10 + d) / 18446744073709551616 : Nat) : Int) == 1) = ((v * 10 + d) / 18446744073709551616 == 1) := by rw [Bool.eq_iff_iff, beq_iff_eq, beq_iff_eq]; omega
      have h4 : decide (1 < (((v * 10 + d) / 18446744073709551616 : Nat) : Int)) = decide (1 < (v * 10 + d) / 18446744073709551616) := by rw [decide_eq_decide]; omega
      rw [h1, h2, h3, h4]
      exact (((H.out.set 4 _).set 5 _).set 6 _).conv (by simp [Num.cells, Num.add])

theorem num_cell {w : World} {b : Nat} {n : Num} {t : TypeId} (h : Has w b n.cells t) :
    w.cell? ⟨b, 0, none⟩ = some (.bool n.neg) ∧ w.cell? ⟨b, 1, none⟩ = some (.bool n.minus) ∧ w.cell? ⟨b, 2, none⟩ = some (.bool n.digits) ∧ w.cell? ⟨b, 3, none⟩ = some (.bool n.zero) ∧
      w.cell? ⟨b, 4, none⟩ = some (.int .u64 n.v) ∧ w.cell? ⟨b, 5, none⟩ = some (.bool n.top) ∧ w.cell? ⟨b, 6, none⟩ = some (.bool n.over) ∧ w.cell? ⟨b, 7, none⟩ = some (.int .i64 n.e) :=
  ⟨h.cell 0, h.cell 1, h.cell 2, h.cell 3, h.cell 4, h.cell 5, h.cell 6, h.cell 7⟩

theorem num_float (n : Num) (x : Int) (hd : isDig x = false) (he : n.e = 0) (hg : n.digits = true) (hx : x = 46 ∨ x = 101 ∨ x = 69) : n.took x = false ∧ n.after x = { n with e := 6 } := by
  constructor
  · simp [Num.took, hd, hg]
  · unfold Num.after
    rw [if_neg (by rw [he]; simp), if_neg (by simp [hd]), if_neg (by simp [hg]), if_pos ⟨hg, hx⟩]

set_option maxHeartbeats 1000000 in
set_option maxRecDepth 100000 in
theorem num_step (b : Nat) (t : TypeId) (n : Num) (x : Int) (w : World) (h : Has w b n.cells t) (hx : 0 ≤ x ∧ x ≤ 255) (hv : n.v < 18446744073709551616) :
    Calls Tryd.prog 12 #[.pointer (some ⟨b, 0, none⟩), .int .u8 x] w fun e w' => e = .returned (.tuple #[.bool (n.took x), .int .i64 (n.after x).e]) ∧ Has w' b (n.after x).cells t ∧ Keeps [b] w w' := by
  obtain ⟨hx0, hx1⟩ := hx
  obtain ⟨neg, minus, digits, zero, v, top, over, e⟩ := n
  have H := Lib.hid h
  obtain ⟨g0, g1, g2, g3, g4, g5, g6, g7⟩ := num_cell h
  have f0 := h.free 0
  have f1 := h.free 1
  have f2 := h.free 2
  have f3 := h.free 3
  have f7 := h.free 7
  clear h
  by_cases he : e = 0
  · subst he
    by_cases hd : 48 ≤ x ∧ x ≤ 57
    · have hdig : isDig x = true := by simpa [isDig] using hd
      obtain ⟨hd1, hd2⟩ := hd
      cases zero with
      | false =>
        have hadd := num_add b t ⟨neg, minus, digits, false, v, top, over, 0⟩ (x - 48).toNat w H.out (by omega) hv
        rw [show ((x - 48).toNat : Int) = x - 48 by omega] at hadd
        obtain ⟨m, hm⟩ : ∃ m, m = Num.add ⟨neg, minus, digits, false, v, top, over, 0⟩ (x - 48).toNat := ⟨_, rfl⟩
        rw [← hm] at hadd
        have hdg : m.digits = digits := by rw [hm]; unfold Num.add; split <;> rfl
        have hme : m.e = 0 := by rw [hm]; exact (add_neg _ _).2.2
        have hafter : Num.after ⟨neg, minus, digits, false, v, top, over, 0⟩ x = { m with zero := !digits && x == 48, digits := true } := by
          unfold Num.after
          rw [if_neg (by simp), if_pos ⟨hdig, rfl⟩, hm]
        have htook : Num.took ⟨neg, minus, digits, false, v, top, over, 0⟩ x = true := by simp [Num.took, hdig]
        have HM := Lib.hid hme
        have HA := Lib.hid hafter
        have HT := Lib.hid htook
        clear hafter htook hm hme hdig hv
        cases digits
        all_goals
          go_enter Tryd.func12, Tryd.ntmps12
          go_wp2_with (go_at_call 15; refine hadd.mono ?_; rintro e w1 ⟨rfl, h1, k1⟩; obtain ⟨c0, c1, c2, c3, c4, c5, c6, c7⟩ := num_cell h1; rw [hdg] at c2; have e2 := h1.free 2; have e3 := h1.free 3; have H1 := Lib.hid h1; have K1 := Lib.hid k1; clear h1 k1 g0 g1 g2 g3 g4 g5 g6 g7 f0 f1 f2 f3 f7)
          go_ret2
          rw [HT.out, HA.out]
          refine ⟨?_, ?_, (K1.out.set1 _).set1 _⟩
          · simp [HM.out]
          · exact ((H1.out.set 3 _).set 2 _).conv (by simp [Num.cells])
      | true =>
        have hafter : ∀ g, Num.after ⟨neg, minus, g, true, v, top, over, 0⟩ x = ⟨neg, minus, g, true, v, top, over, 2⟩ := fun g => by
          unfold Num.after
          rw [if_neg (by simp), if_neg (by simp), if_neg (by omega), if_neg (by omega), if_pos (Or.inr hdig)]
        have htook : ∀ g, Num.took ⟨neg, minus, g, true, v, top, over, 0⟩ x = false := fun g => by
          have : ¬ x = 45 := by omega
          simp [Num.took, this]
        have HA := Lib.hid hafter
        have HT := Lib.hid htook
        have n1 : (x == 45) = false := by rw [beq_eq_false_iff_ne]; omega
        have n2 : (x == 46) = false := by rw [beq_eq_false_iff_ne]; omega
        have n3 : (x == 69) = false := by rw [beq_eq_false_iff_ne]; omega
        have n4 : (x == 101) = false := by rw [beq_eq_false_iff_ne]; omega
        clear hafter htook hdig hv
        cases digits
        all_goals
          go_enter Tryd.func12, Tryd.ntmps12
          go_wp2
          go_region
          go_wp2
          go_ret2
          rw [HT.out, HA.out]
          exact ⟨rfl, (H.out.set 7 _).drew.conv (by simp [Num.cells]), ((Keeps.refl _ _).set1 _).drew⟩
    · have hdig : isDig x = false := by simpa [isDig] using hd
      by_cases h45 : x = 45
      · subst h45
        have HV := Lib.hid hv
        clear hd hdig hv
        cases digits with
        | true =>
          cases minus
          all_goals
            go_enter Tryd.func12, Tryd.ntmps12
            go_wp2
            go_region
            go_wp2
            go_ret2
            refine ⟨?_, ?_, ?_⟩
            · simp [Num.took, Num.after, isDig]
            · exact H.out.drew.conv (by simp [Num.after, isDig])
            · exact (Keeps.refl _ _).drew
        | false =>
          cases minus with
          | true =>
            go_enter Tryd.func12, Tryd.ntmps12
            go_wp2
            go_region
            go_wp2
            go_ret2
            rw [show Num.took ⟨neg, true, false, zero, v, top, over, 0⟩ 45 = false by simp [Num.took, isDig], show Num.after ⟨neg, true, false, zero, v, top, over, 0⟩ 45 = ⟨neg, true, false, zero, v, top, over, 2⟩ by simp [Num.after, isDig]]
            exact ⟨rfl, (H.out.set 7 _).drew.conv (by simp [Num.cells]), ((Keeps.refl _ _).set1 _).drew⟩
          | false =>
            go_enter Tryd.func12, Tryd.ntmps12
            go_wp2
            go_ret2
            rw [show Num.took ⟨neg, false, false, zero, v, top, over, 0⟩ 45 = true by simp [Num.took, isDig], show Num.after ⟨neg, false, false, zero, v, top, over, 0⟩ 45 = ⟨true, true, false, zero, v, top, over, 0⟩ by simp [Num.after, isDig]]
            exact ⟨rfl, ((H.out.set 1 _).set 0 _).conv (by simp [Num.cells]), ((Keeps.refl _ _).set1 _).set1 _⟩
      · cases digits with
        | false =>
          have hafter : Num.after ⟨neg, minus, false, zero, v, top, over, 0⟩ x = ⟨neg, minus, false, zero, v, top, over, 2⟩ := by
            unfold Num.after
            rw [if_neg (by simp), if_neg (by simp [hdig]), if_neg (by simp [h45]), if_neg (by simp), if_pos (Or.inl rfl)]
          have htook : Num.took ⟨neg, minus, false, zero, v, top, over, 0⟩ x = false := by simp [Num.took, hdig, h45]
          have HA := Lib.hid hafter
          have HT := Lib.hid htook
          clear hafter htook hdig hv
          rcases (show x < 48 ∨ 57 < x by omega) with hl | hl
          all_goals
            clear hd
            go_enter Tryd.func12, Tryd.ntmps12
            go_wp2
            go_region
            go_wp2
            go_ret2
            rw [HT.out, HA.out]
            exact ⟨rfl, (H.out.set 7 _).drew.conv (by simp [Num.cells]), ((Keeps.refl _ _).set1 _).drew⟩
        | true =>
          by_cases hf : x = 46 ∨ x = 101 ∨ x = 69
          · clear hd h45
            rcases hf with rfl | rfl | rfl
            all_goals
              have HD := Lib.hid hdig
              have HV := Lib.hid hv
              clear hdig hv
              go_enter Tryd.func12, Tryd.ntmps12
              go_wp2
              go_region
              go_wp2
              go_ret2
              have hafter := num_float ⟨neg, minus, true, zero, v, top, over, 0⟩ _ HD.out rfl rfl (by omega)
              rw [hafter.1, hafter.2]
              exact ⟨rfl, (H.out.set 7 _).drew.conv (by simp [Num.cells]), ((Keeps.refl _ _).set1 _).drew⟩
          · have hafter : Num.after ⟨neg, minus, true, zero, v, top, over, 0⟩ x = ⟨neg, minus, true, zero, v, top, over, 0⟩ := by
              unfold Num.after
              rw [if_neg (by simp), if_neg (by simp [hdig]), if_neg (by simp), if_neg (by simp [hf]), if_neg (by simp [hdig])]
            have htook : Num.took ⟨neg, minus, true, zero, v, top, over, 0⟩ x = false := by simp [Num.took, hdig]
            have HA := Lib.hid hafter
            have HT := Lib.hid htook
            have n2 : (x == 46) = false := by rw [beq_eq_false_iff_ne]; omega
            have n3 : (x == 101) = false := by rw [beq_eq_false_iff_ne]; omega
            have n4 : (x == 69) = false := by rw [beq_eq_false_iff_ne]; omega
            clear hafter htook hdig hv hf
            rcases (show x < 48 ∨ 57 < x by omega) with hl | hl
            all_goals
              clear hd
              go_enter Tryd.func12, Tryd.ntmps12
              go_wp2
              go_region
              go_wp2
              go_ret2
              rw [HT.out, HA.out]
              exact ⟨rfl, H.out.drew, (Keeps.refl _ _).drew⟩
  · go_enter Tryd.func12, Tryd.ntmps12
    go_wp2
    all_goals
      go_region
      go_wp2
      go_ret2
      refine ⟨?_, ?_, (Keeps.refl _ _).drew⟩
      · simp [Num.took, Num.after, he]
      · exact H.out.drew.conv (by simp [Num.after, he])
end Go.Proofs.YtfgnjaelfjabmaaDoor
