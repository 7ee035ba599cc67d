/-
  An api.Ev, and a slice of them, that came in.
-/
import Derived.Test.YtefdemebmibonaaLaw
import Derived.Test.YtefdemebmibonaaEvIn
import Derived.Deep.Slices
namespace Go.Proofs.Ytefdemebmibonaa
open Go.RowKit Go.Tru Go.ChangeShapes Go.WideShapes Go.ChangeAt

instance : Inhabited Ev := ⟨evNull⟩
theorem Try.cells_ev : Try.prog.cellsOf 30 = 5 := by kernel_rfl
theorem Try.cells_i : Try.prog.cellsOf 3 = 1 := by kernel_rfl
theorem Try.cells_b : Try.prog.cellsOf 4 = 1 := by kernel_rfl
theorem Try.cells_u : Try.prog.cellsOf 28 = 1 := by kernel_rfl
theorem Try.cells_s : Try.prog.cellsOf 9 = 1 := by kernel_rfl

set_option maxRecDepth 100000 in
theorem read_ev {H : Type} {enc : TypeId × Value → H} {w : World} {base : Nat} {spare : Nat → Bool} {held : Bool} {fuel : Nat} {cs : List Value} {x : DataW H × List MemPlace}
    (h : DataW.trod enc Try.prog w base spare held fuel 30 cs = some x) : ∃ e : Ev, cs = e.cells ∧ e.Fit := by
  obtain ⟨xs, n, _, _, hlen, hx, hf⟩ := DataW.trod_struct Try.underlying30 h
  rw [Try.cells_ev] at hlen
  obtain ⟨c0, c1, c2, c3, c4, rfl⟩ : ∃ c0 c1 c2 c3 c4, cs = [c0, c1, c2, c3, c4] := by
    match cs, hlen with
    | [c0, c1, c2, c3, c4], _ => exact ⟨c0, c1, c2, c3, c4, rfl⟩
  have hx' : xs.length = 5 := hx
  have h0 : DataW.trod enc Try.prog w base spare held n 3 (([c0, c1, c2, c3, c4].drop 0).take (Try.prog.cellsOf 3)) = xs[0]? := hf 0 _ rfl
  have h1 : DataW.trod enc Try.prog w base spare held n 4 (([c0, c1, c2, c3, c4].drop 1).take (Try.prog.cellsOf 4)) = xs[1]? := hf 1 _ rfl
  have h2 : DataW.trod enc Try.prog w base spare held n 28 (([c0, c1, c2, c3, c4].drop 2).take (Try.prog.cellsOf 28)) = xs[2]? := hf 2 _ rfl
  have h3 : DataW.trod enc Try.prog w base spare held n 9 (([c0, c1, c2, c3, c4].drop 3).take (Try.prog.cellsOf 9)) = xs[3]? := hf 3 _ rfl
  have h4 : DataW.trod enc Try.prog w base spare held n 3 (([c0, c1, c2, c3, c4].drop 4).take (Try.prog.cellsOf 3)) = xs[4]? := hf 4 _ rfl
  simp only [Try.cells_i, Try.cells_b, Try.cells_u, Try.cells_s, List.drop_zero, List.drop_succ_cons, List.take_succ_cons, List.take_zero] at h0 h1 h2 h3 h4
  rw [List.getElem?_eq_getElem (by omega)] at h0 h1 h2 h3 h4
  obtain ⟨k, e0, _, w0⟩ := DataW.trod_int Try.underlying3 h0
  obtain ⟨y, e1, _⟩ := DataW.trod_bool Try.underlying4 h1
  obtain ⟨m, e2, _, w2⟩ := DataW.trod_int Try.underlying28 h2
  obtain ⟨t, e3, _, w3⟩ := DataW.trod_string Try.underlying9 h3
  obtain ⟨c, e4, _, w4⟩ := DataW.trod_int Try.underlying3 h4
  simp only [List.cons.injEq, and_true] at e0 e1 e2 e3 e4
  subst e0 e1 e2 e3 e4
  exact ⟨⟨k, y, m, t, c⟩, rfl, bound_i64 w0, bound_u64 w2, w3, bound_i64 w4⟩

/-- an api.Ev by value -/
theorem open_ev {H : Type} {enc : TypeId × Value → H} {W : World} {base : Nat} {v : Value} {d : DataW H} {p : List MemPlace}
    (hv : Value.okWide Try.prog W .any base 30 v) (h : DataW.Trod enc Try.prog W 0 (fun _ => true) true 30 v d p) : ∃ e : Ev, v = e.val ∧ e.Fit := by
  obtain ⟨cs, rfl, _⟩ := okWide_struct Try.underlying30 hv
  obtain ⟨fuel, hf⟩ := h
  obtain ⟨e, he, hfit⟩ := read_ev hf
  refine ⟨e, ?_, hfit⟩
  simp only [Value.cells] at he
  show Value.agg cs = .agg e.cells.toArray
  rw [← he]

/-- a []api.Ev that came in -/
theorem open_list_evs {H : Type} {enc : TypeId × Value → H} {W : World} {base : Nat} {v : Value} {d : DataW H} {p : List MemPlace}
    (hv : Value.okWide Try.prog W .any base 26 v) (h : DataW.Trod enc Try.prog W 0 (fun _ => true) true 26 v d p) (hlt : ∀ x ∈ p, x.block < W.heap.size) :
    ∃ (n c : Nat) (o : Option Addr) (es : List Ev), v = .slice o n c ∧ EvsIn W o n c es ∧ ∀ e ∈ es, e.Fit := by
  obtain ⟨a0, len, cap, rfl⟩ := okWide_slice Try.underlying26 hv
  obtain ⟨fuel, hf⟩ := h
  rcases Deep.open_slice Try.underlying26 hf with ⟨hcs, hx⟩ | ⟨a, len', cap', m, n, D, Pl, hcs, _, hl, hm, hmm, hx, hel⟩
  · simp [Value.cells] at hcs
    obtain ⟨rfl, rfl, rfl⟩ := hcs
    exact ⟨0, 0, none, [], rfl, ⟨rfl, Nat.le_refl _, Nat.zero_le _, Or.inl rfl⟩, by simp⟩
  · simp [Value.cells] at hcs
    obtain ⟨rfl, rfl, rfl⟩ := hcs
    simp only [if_true] at hmm
    subst hmm
    have each : ∀ i, i < len → ∃ e : Ev, e.Fit ∧ ∀ j v, e.cells[j]? = some v → W.cell? (a.add (i * 5 + j)) = some v := by
      intro i hi
      obtain ⟨cs', h1, h2⟩ := hel i (by omega)
      obtain ⟨e, rfl, hfit⟩ := read_ev h2
      rw [Try.cells_ev] at h1
      refine ⟨e, hfit, fun j v hj => ?_⟩
      have hjl : j < 5 := by have := (List.getElem?_eq_some_iff.1 hj).1; simpa [Ev.cells] using this
      have h3 := (World.cells?_some h1).2.2 j hjl
      rw [Deep.add_add] at h3
      rw [h3, hj]
    obtain ⟨E, hE⟩ := Deep.choose_lt (p := fun i (e : Ev) => e.Fit ∧ ∀ j v, e.cells[j]? = some v → W.cell? (a.add (i * 5 + j)) = some v) each
    refine ⟨len, _, some a, (List.range len).map E, rfl, ⟨by simp, hl, hm, ?_⟩, ?_⟩
    · by_cases h0 : len = 0
      · exact Or.inl h0
      · obtain ⟨b, off, spot⟩ := a
        have hspot : spot = none := by
          have := (hE 0 (by omega)).2 0 _ rfl
          simpa [Addr.add] using World.cell?_spot this
        subst hspot
        refine Or.inr ⟨b, off, rfl, hlt (.cell b off) ?_, fun i e he j v hv => ?_⟩
        · simp only [Prod.mk.injEq] at hx
          rw [hx.2, Try.cells_ev]
          exact List.mem_append_left _ (MemPlace.mem_row.2 ⟨0, by omega, by simp⟩)
        · rw [List.getElem?_map] at he
          obtain ⟨i', hi', rfl⟩ := Option.map_eq_some_iff.1 he
          obtain ⟨hlt', rfl⟩ := List.getElem?_eq_some_iff.1 hi'
          rw [List.length_range] at hlt'
          rw [Nat.add_assoc, ← add_plain]
          simp only [List.getElem_range] at hv
          exact (hE i hlt').2 j v hv
    · intro e he
      obtain ⟨i, hi, rfl⟩ := List.mem_map.1 he
      exact (hE i (List.mem_range.1 hi)).1
end Go.Proofs.Ytefdemebmibonaa
