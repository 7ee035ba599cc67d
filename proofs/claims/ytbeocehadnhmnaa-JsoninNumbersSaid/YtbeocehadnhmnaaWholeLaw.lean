/-
  An api.Whole that came in by value.
-/
import Derived.Test.YtbeocehadnhmnaaLaw
namespace Go.Proofs.Ytbeocehadnhmnaa
open Go.RowKit Go.Tru Go.ChangeShapes Go.WideShapes Go.ChangeAt

theorem Try.cells_whole : Try.prog.cellsOf 53 = 2 := by kernel_rfl
theorem Try.cells_wb : Try.prog.cellsOf 4 = 1 := by kernel_rfl
theorem Try.cells_wu : Try.prog.cellsOf 34 = 1 := by kernel_rfl

set_option maxRecDepth 100000 in
theorem read_whole {H : Type} {enc : TypeId × Value → H} {w : World} {base : Nat} {spare : Nat → Bool} {held : Bool} {fuel : Nat} {cs : List Value} {x : DataW H × List MemPlace}
    (h : DataW.trod enc Try.prog w base spare held fuel 53 cs = some x) : ∃ (b : Bool) (v : Nat), cs = [.bool b, .int .u64 (v : Int)] ∧ v < 18446744073709551616 := by
  obtain ⟨xs, n, _, _, hlen, hx, hf⟩ := DataW.trod_struct Try.underlying53 h
  rw [Try.cells_whole] at hlen
  obtain ⟨c0, c1, rfl⟩ : ∃ c0 c1, cs = [c0, c1] := by
    match cs, hlen with
    | [c0, c1], _ => exact ⟨c0, c1, rfl⟩
  have hx' : xs.length = 2 := hx
  have h0 : DataW.trod enc Try.prog w base spare held n 4 (([c0, c1].drop 0).take (Try.prog.cellsOf 4)) = xs[0]? := hf 0 _ rfl
  have h1 : DataW.trod enc Try.prog w base spare held n 34 (([c0, c1].drop 1).take (Try.prog.cellsOf 34)) = xs[1]? := hf 1 _ rfl
  simp only [Try.cells_wb, Try.cells_wu, List.drop_zero, List.drop_succ_cons, List.take_succ_cons, List.take_zero] at h0 h1
  rw [List.getElem?_eq_getElem (by omega)] at h0 h1
  obtain ⟨y, e1, _⟩ := DataW.trod_bool Try.underlying4 h0
  obtain ⟨m, e2, _, w2⟩ := DataW.trod_int Try.underlying34 h1
  simp only [List.cons.injEq, and_true] at e1 e2
  subst e1 e2
  obtain ⟨hm1, hm2⟩ := bound_u64 w2
  obtain ⟨v, rfl⟩ : ∃ v : Nat, m = v := ⟨m.toNat, by omega⟩
  have hv2 : v < 18446744073709551616 := by clear h1 h0 hf h; omega
  exact ⟨y, v, rfl, hv2⟩

set_option maxRecDepth 100000 in
/-- an api.Whole by value -/
theorem open_whole {H : Type} {enc : TypeId × Value → H} {W : World} {base : Nat} {v : Value} {d : DataW H} {p : List MemPlace}
    (hv : Value.okWide Try.prog W .any base 53 v) (h : DataW.Trod enc Try.prog W 0 (fun _ => true) true 53 v d p) : ∃ (b : Bool) (x : Nat), v = .agg #[.bool b, .int .u64 (x : Int)] ∧ x < 18446744073709551616 := by
  obtain ⟨cs, rfl, _⟩ := okWide_struct Try.underlying53 hv
  obtain ⟨fuel, hf⟩ := h
  obtain ⟨b, x, he, hx⟩ := read_whole hf
  refine ⟨b, x, ?_, hx⟩
  simp only [Value.cells] at he
  show Value.agg cs = .agg #[.bool b, .int .u64 (x : Int)]
  have : cs = [Value.bool b, Value.int .u64 (x : Int)].toArray := by rw [← he]
  rw [this]
end Go.Proofs.Ytbeocehadnhmnaa
