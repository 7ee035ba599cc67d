/-
  jsonin.Parser: token: its contract.
-/
import Derived.Test.YtbeocehadnhmnaaJsTok3
import Derived.Test.YtbeocehadnhmnaaJsTok4
import Derived.Test.YtbeocehadnhmnaaJsTok5
namespace Go.Proofs.Ytbeocehadnhmnaa
open Go.RowKit Go.Tru

theorem token_any (base b : Nat) (mv : Value) (p : Js) (F : List Nat) (t : Tok) (w : World) (h : JsIn w base b mv p F) (hf : p.Fit) (hbase : base ≤ w.heap.size) :
    Calls Try.prog 42 #[.pointer (some ⟨b, 0, none⟩), tokVal t] w fun e w' => TokLeft w base b mv F (p.token t) e w' := by
  unfold Js.token
  by_cases hA : t.kind = 58 ∧ p.next = 4
  · rw [if_pos hA]
    exact token_colon base b mv p F t w h hA
  rw [if_neg hA]
  by_cases hB : t.kind = 44 ∧ p.next = 5
  · rw [if_pos hB]
    cases hm : p.maps with
    | nil => exact absurd hm (hf.more hB.2)
    | cons m r =>
      have := token_comma base b mv p F t w h hf hB m r hm
      simpa [hm] using this
  rw [if_neg hB]
  by_cases hC : p.ends t = true
  · rw [if_pos hC]
    cases hm : p.maps with
    | nil => simp [Js.ends, hm] at hC
    | cons m r =>
      refine token_end base b mv p F t w h hf m r hm ?_
      have := hC
      unfold Js.ends at this
      rw [hm] at this
      exact of_decide_eq_true this
  rw [if_neg hC]
  by_cases hD : t.kind = 115 ∧ (p.next = 3 ∨ p.next = 2)
  · rw [if_pos hD]
    exact token_key base b mv p F t w h hD
  rw [if_neg hD]
  by_cases hE : p.next ≠ 0 ∧ p.next ≠ 1
  · rw [if_pos hE]
    cases hm : p.maps with
    | nil => exact token_bad0 base b mv p F t w h hf hA hB hD hE hm
    | cons m r => exact token_bad1 base b mv p F t w h hf hA hB hC hD hE m r hm
  · rw [if_neg hE]
    cases hm : p.maps with
    | nil => exact token_go0 base b mv p F t w h hf hbase (by omega) hm
    | cons m r => exact token_go1 base b mv p F t w h hf hbase (by omega) hC m r hm

end Go.Proofs.Ytbeocehadnhmnaa
