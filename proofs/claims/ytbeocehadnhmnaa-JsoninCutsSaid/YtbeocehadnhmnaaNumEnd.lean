/-
  decimal.Number.End in the middle of a block: its contract.
-/
import Derived.Test.YtbeocehadnhmnaaNum
import Derived.Lib.Hide
import Derived.Laws.ResultCell
namespace Go.Proofs.Ytbeocehadnhmnaa
open Go.RowKit Go.Tru

/-- a number, with its error, as a call's answer -/
def resVal (r : Bool × Nat × Int) : Value := .tuple #[.agg #[.bool r.1, .int .u64 r.2.1], .int .i64 r.2.2]

set_option maxHeartbeats 1000000 in
set_option maxRecDepth 100000 in
theorem num_end (b : Nat) (pre post : List Value) (t : TypeId) (n : Num) (w : World) (h : Has w b (pre ++ n.cells ++ post) t) (off : Nat) (hoff : off = pre.length) (hv : n.v < 18446744073709551616) :
    Calls Try.prog 54 #[.pointer (some ⟨b, off, none⟩)] w fun e w' => e = .returned (resVal n.result) ∧ Keeps [] w w' := by
  obtain ⟨neg, minus, digits, zero, v, top, over, e⟩ := n
  obtain ⟨g0, g1, g2, g3, g4, g5, g6, g7⟩ := num_cell h hoff
  have hb := h.lt
  have hw : ¬ w.heap.size = b := by omega
  clear h hoff
  by_cases he : e = 0
  · subst he
    cases digits with
    | false =>
      go_enter Try.func54, Try.ntmps54
      go_wp2
      (try simp only [Exit.inBlock, Exit.then])
      refine bodyPost_ret (v := _) ?_ rfl ⟨rfl, ?_⟩
      · rw [results_cell_tmp rfl]
        go_simp
        simp [resVal, Num.result]
      · exact (Keeps.refl _ _).alloc _
    | true =>
      cases over with
      | true =>
        go_enter Try.func54, Try.ntmps54
        go_wp2
        (try simp only [Exit.inBlock, Exit.then])
        refine bodyPost_ret (v := _) ?_ rfl ⟨rfl, ?_⟩
        · rw [results_cell_tmp rfl]
          go_simp
          simp [resVal, Num.result]
        · exact (Keeps.refl _ _).alloc _
      | false =>
        rcases Nat.eq_zero_or_pos v with rfl | hp
        · cases top <;> cases neg
          all_goals
            go_enter Try.func54, Try.ntmps54
            go_wp2
            (try simp only [Exit.inBlock, Exit.then])
            refine bodyPost_ret (v := _) ?_ rfl ⟨rfl, ?_⟩
            · rw [results_cell_tmp rfl]
              go_simp
              simp [resVal, Num.result]
              try decide
            · exact (Keeps.refl _ _).alloc _
        · have hp1 : decide ((0 : Int) < v) = true := by rw [decide_eq_true_eq]; omega
          have hw1 : IntKind.u64.wrap ((v : Int) - 1) = (((v + 18446744073709551615) % 18446744073709551616 : Nat) : Int) := by rw [IntKind.wrap_u64]; omega
          have hp2 : (0 : Int) < v := by omega
          have HP := Lib.hid hp
          clear hp hv
          cases top <;> cases neg
          all_goals
            go_enter Try.func54, Try.ntmps54
            go_wp2
            (try simp only [Exit.inBlock, Exit.then])
            refine bodyPost_ret (v := _) ?_ rfl ⟨rfl, ?_⟩
            · rw [results_cell_tmp rfl]
              go_simp
              simp [resVal, Num.result, HP.out]
            · exact (Keeps.refl _ _).alloc _
  · go_enter Try.func54, Try.ntmps54
    go_wp2
    all_goals
      go_region
      go_wp2
      (try simp only [Exit.inBlock, Exit.then])
      refine bodyPost_ret (v := _) ?_ rfl ⟨rfl, ?_⟩
      · rw [results_cell_tmp rfl]
        go_simp
        simp [resVal, Num.result, he]
      · first | exact (Keeps.refl _ _).alloc _ | exact ((Keeps.refl _ _).alloc _).drew
end Go.Proofs.Ytbeocehadnhmnaa
